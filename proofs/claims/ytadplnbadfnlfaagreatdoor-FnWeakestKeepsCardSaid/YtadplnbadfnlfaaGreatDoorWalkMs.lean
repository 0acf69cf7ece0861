import Derived.Test.YtadplnbadfnlfaaGreatDoorSubS
import Derived.Test.YtadplnbadfnlfaaGreatDoorWalkMi
import Derived.Test.YtadplnbadfnlfaaGreatDoorPlainM
import Derived.Test.YtadplnbadfnlfaaGreatDoorSafeS
namespace Go.Proofs.YtadplnbadfnlfaaGreatDoor
open Go Go.RowKit
set_option linter.unusedVariables false
set_option linter.unusedSimpArgs false
set_option maxHeartbeats 4000000
set_option maxRecDepth 100000
theorem order_len {A:Auto} (hA:AutoFit A) {nodes:List Nat} (h1:nodes.Nodup) (h3:∀m∈nodes,ReachN (nxT A) (letters A.alphabet) 0 m):nodes.length≤A.next.length:=
 nodup_len nodes A.next.length h1 fun x hx=>reach_lt hA.n1 (fun q l hq _=>hA.step_lt hq l) (h3 x hx)
theorem row_entry {A:Auto} (hA:AutoFit A) {n:Nat} (hn:n<A.next.length) {row:List Int} (hr:A.next[n]?=some row) {q:Nat} {l:Int} (hl:(letters A.alphabet)[q]?=some l):row[q]?=some (step A n l:Int)∧step A n l<A.next.length:=by
 obtain ⟨hb,h0,h6,hm6⟩:=letters_mem _ _ _ hA.a63 hl
 have hp:=((letters_place _ _ q hA.a0 hA.a63 h0 h6 hm6).1 hl).2
 obtain ⟨row',z,hr',hz,rfl,hzn⟩:=hA.step_facts hn hb
 rw [hr] at hr'
 cases hr'
 rw [hp] at hz
 exact ⟨hz,hzn⟩
def OrderEnd (A:Auto) (w:World) (e:Ending) (w':World):Prop:=
 ∃v nodes,e=.returned v∧Ext w w'∧Numbers (nxT A) (letters A.alphabet) 0 nodes∧nodes.length≤A.next.length∧IntsV w' v (ints nodes)
theorem l5Order_s (v:Value) (A:Auto) (w:World) (hv:AutoV w v A) (hA:AutoFit A) (hM:A.next.length≤100) :
  Calls Tryz.prog 281 #[v] w (OrderEnd A w):=by
 obtain ⟨vn,va,rfl,hN1,hA1⟩:=hv
 obtain ⟨an,cn,rfl,-,hn2⟩:=hN1.open
 obtain ⟨aa,ca,rfl,-,-⟩:=hA1.open
 have HN2:=Lib.hid hn2
 have HX:=Lib.hid hA
 have ha63:=hA.a63
 have hn1:=hA.n1
 have hL6:(letters A.alphabet).length≤6:=lettersTo_len A.alphabet 6
 obtain ⟨N,hN⟩:∃N,A.next.length=N:=⟨_,rfl⟩
 have HNL:=Lib.hid hN
 have HOL:=Lib.hid (fun (nodes:List Nat) (h1:nodes.Nodup) h3=>(by have:=order_len hA h1 h3;rwa [hN] at this:nodes.length≤N))
 rw [hN] at hM hn1
 clear hN1 hA1 hn2 hA hN
 obtain ⟨wo,hwo⟩:∃wo,wo=w.alloc (.cells #[.int .i64 A.alphabet,.slice an A.next.length cn,.slice aa A.accept.length ca] 31):=⟨_,rfl⟩
 have he:Ext w wo:=by rw [hwo];exact Ext.alloc _ _
 have b1:Blk wo w.heap.size #[.int .i64 A.alphabet,.slice an A.next.length cn,.slice aa A.accept.length ca] 31:=by rw [hwo];exact Blk.new _ _ _
 have hOne:(IntsOwn 3 wo.heap.size (wo.alloc (.cells #[.int .i64 0] 3)) (.slice (some ⟨wo.heap.size,0,none⟩) 1 1) [0]):=IntsOwn.one 3 wo 0
 have hP0:Pool wo.heap.size (wo.alloc (.cells #[.int .i64 0] 3)) [⟨3,1,.slice (some ⟨wo.heap.size,0,none⟩) 1 1,1,(ints [0]).map (Value.int .i64)⟩]:=
  ⟨fun t ht=>by (obtain rfl:t=_:=by simpa using ht);exact hOne.own,List.pairwise_cons.2 ⟨fun t ht=>by (cases ht),List.Pairwise.nil⟩⟩
 go_enter Tryz.func281,Tryz.ntmps281
 go_upto_region 1 with fail
 rw [←hwo]
 clear hwo
 go_wp2_with fail
 have b10:=b1.ext (Ext.alloc wo (.cells #[.int .i64 0] 3))
 have he0:=he.trans (Ext.alloc wo (.cells #[.int .i64 0] 3))
 have hs0:wo.heap.size≤(wo.alloc (.cells #[.int .i64 0] 3)).heap.size:=(Ext.alloc wo (.cells #[.int .i64 0] 3)).size
 have hwb:w.heap.size≤wo.heap.size:=he.size
 clear b1 he hOne
 generalize wo.alloc (.cells #[.int .i64 0] 3)=w1 at hP0 b10 he0 hs0⊢
 generalize wo.heap.size=base at hP0 hs0 hwb⊢
 clear wo
 go_loopw [3,4] (fun vS i wr=>∃(k m:Nat) (nodes:List Nat),i=.int .i64 k∧k≤m∧m≤N∧Hid (nodes.length=m)∧Hid (nodesTo (nxT A) (letters A.alphabet) 0 k=nodes)∧Pool base wr [⟨3,1,vS,m,(ints nodes).map (Value.int .i64)⟩]∧Blk wr w.heap.size #[.int .i64 A.alphabet,.slice an A.next.length cn,.slice aa A.accept.length ca] 31∧Ext w wr∧base≤wr.heap.size) (fun _ i _=>N+1-(intOf i).toNat)
 case atStart=>exact ⟨0,1,[0],rfl,by omega,by omega,Lib.hid rfl,Lib.hid rfl,hP0,b10,he0,hs0⟩
 case round=>
  clear hP0 b10 he0 hs0
  obtain ⟨k,m,nodes,rfl,hkm,hmN,HML,HNO,hP,b1,he,hsz⟩:=hrel
  obtain ⟨aS,cS,rfl⟩:=own_any' (Pool.hd hP)
  by_cases hlt:k<m
  case neg=>
   obtain rfl:k=m:=by omega
   have hnum:Numbers (nxT A) (letters A.alphabet) 0 nodes:=by
    have h1:=HNO.out
    rw [←h1]
    exact Numbers.of (by rw [h1,HML.out])
   have HFIN:Hid (Ext w wr∧Numbers (nxT A) (letters A.alphabet) 0 nodes∧nodes.length≤A.next.length∧IntsV wr (.slice aS k cS) (ints nodes)):=Lib.hid ⟨he,hnum,by rw [HML.out,HNL.out];exact hmN,own_ints (Pool.hd hP) (by rw [ints_len,HML.out])⟩
   clear hnum hP b1 he
   go_wp2_with fail
   go_ret
   obtain ⟨f1,f2,f3,f4⟩:=HFIN.out
   exact ⟨_,nodes,rfl,f1,f2,f3,f4⟩
  obtain ⟨n,hnk⟩:∃n,nodes[k]?=some n:=⟨_,List.getElem?_eq_getElem (by rw [HML.out];omega)⟩
  have HNUM0:Hid (NumSt (nxT A) (letters A.alphabet) 0 k 0 n nodes []):=Lib.hid (by have h1:=HNO.out;subst h1;exact NumSt.start hnk)
  have hnN:n<A.next.length:=reach_lt HX.out.n1 (fun q l hq _=>HX.out.step_lt hq l) (HNUM0.out.reach n (List.mem_of_getElem? hnk))
  obtain ⟨gS,cS',e6,gs⟩:=own_at (Pool.hd hP) (j:=k) (u:=.int .i64 n) (by rw [List.getElem?_map,ints_at hnk];rfl)
  cases e6
  obtain ⟨row,hr,hrl,-⟩:=HX.out.row hnN
  obtain ⟨b,off,rfl,-,hc3⟩:=HN2.out n row hr
  obtain ⟨vr,g1,hvr⟩:=hc3 n row hr
  rw [Nat.mul_one] at g1
  have g1r:=he.cell g1
  obtain ⟨ar,cr,rfl,-,hrr⟩:=hvr.open
  have HRR:=Lib.hid hrr
  have HR1:=Lib.hid hr
  have HRL:=Lib.hid (show row.length=(letters A.alphabet).length from hrl)
  have hrow6:row.length≤6:=by rw [HRL.out];exact hL6
  have hkm':(k:Int)<(m:Int):=by omega
  have hnA:(n:Int)<(A.next.length:Int):=by omega
  clear hc3 hr hvr hrr hrl g1 hnk
  go_wp2_with fail
  have D0:=fun d os=>cell_regrown (b1.cell 1 rfl) d os
  have D1:=fun d os=>cell_regrown gs d os
  have D2:=fun d os=>cell_regrown g1r d os
  refine wp_region_quiet_below (by kernel_rfl) (by kernel_rfl) ?_
  repeat (go_big_quiet_step (fail))
  refine wpQuiet_nil ?_
  intro _ hw'
  obtain ⟨⟨dq,osq⟩,hw''⟩:=hw'
  subst hw''
  have hq2:Ext wr (Go.Sort.grow (redrawn wr dq) osq):=below_regrown wr dq osq
  generalize Go.Sort.grow (redrawn wr dq) osq=wq at hq2⊢
  clear D0 D1 D2 gs g1r
  replace hP:=hP.ext hq2
  replace b1:=b1.ext hq2
  replace he:=he.trans hq2
  replace hsz:=Nat.le_trans hsz hq2.size
  clear hq2
  go_wp2_with fail
  go_loopw [3,6] (fun vS j wz=>∃(q m':Nat) (nodes':List Nat) (row':List Int),j=.int .i64 q∧q≤row.length∧Hid (nodes'.length=m')∧k<m'∧m'≤N∧Hid (NumSt (nxT A) (letters A.alphabet) 0 k q n nodes' row')∧Pool base wz [⟨3,1,vS,m',(ints nodes').map (Value.int .i64)⟩]∧Blk wz w.heap.size #[.int .i64 A.alphabet,.slice (some ⟨b,off,none⟩) A.next.length cn,.slice aa A.accept.length ca] 31∧Ext w wz∧base≤wz.heap.size) (fun _ j _=>row.length-(intOf j).toNat)
  case atStart=>exact ⟨0,m,nodes,[],rfl,by omega,HML,hlt,hmN,HNUM0,hP,b1,he,hsz⟩
  case round=>
   clear hP b1 he hsz HNUM0 HML HNO
   obtain ⟨q,m',nodes',row',rfl,hq,HML,hkm2,hmN2,HNUM,hP,b1,he,hsz⟩:=hrel
   obtain ⟨aS,cS,rfl⟩:=own_any' (Pool.hd hP)
   by_cases hql:q<row.length
   ·obtain ⟨l,hl⟩:∃l,(letters A.alphabet)[q]?=some l:=⟨_,List.getElem?_eq_getElem (by rw [←HRL.out];exact hql)⟩
    obtain ⟨hz,hzn⟩:=row_entry HX.out hnN HR1.out hl
    have hnx:=HNUM.out.step hl
    rw [show nxT A n l=step A n l from rfl] at hnx
    obtain ⟨y,hy⟩:∃y,step A n l=y:=⟨_,rfl⟩
    rw [hy] at hz hzn hnx
    obtain ⟨b5,off5,rfl,-,hc2⟩:=HRR.out q _ hz
    have g2:=he.cell (hc2 q _ hz)
    rw [Nat.mul_one] at g2
    have hqi:(q:Int)<(row.length:Int):=by omega
    have HNX:=Lib.hid hnx
    have HIN:=Lib.hid (l4In_c _ (ints nodes') (y:Int) wr (own_ints (Pool.hd hP) (by rw [ints_len,HML.out])) (by rw [ints_len,HML.out];omega))
    clear hc2 hz hl hy hnx
    go_wp2_with fail
    refine HIN.out.mono ?_
    rintro e w' ⟨rfl,rfl⟩
    by_cases hmem:y∈nodes'
    ·have hadd:addN nodes' y=nodes':=if_pos hmem
     rw [hadd] at HNX
     rw [decide_eq_true (mem_ints.2 hmem)]
     clear hmem hadd HIN
     go_wp2_with fail
     exact ⟨⟨q+1,m',nodes',_,by go_num,by omega,HML,hkm2,hmN2,HNX,hP,b1,he,hsz⟩,by simp [intOf];omega⟩
    ·have hadd:addN nodes' y=nodes'++[y]:=if_neg hmem
     rw [hadd] at HNX
     have hl':(nodes'++[y]).length=m'+1:=by rw [List.length_append,HML.out];rfl
     have hmN3:m'+1≤N:=by rw [←hl'];exact HOL.out _ HNX.out.nodup HNX.out.reach
     have HML':=Lib.hid hl'
     rw [decide_eq_false (fun h=>hmem (mem_ints.1 h))]
     clear hmem hadd HIN hl'
     have hm32:m'≤4294967296:=by omega
     go_wp2_with (at_builtin;refine appP (news:=[Value.int .i64 (y:Int)]) rfl rfl Tryz.underlying96 infoInt rfl (by decide) hP rfl rfl rfl (by simp [Value.oneCell']) hm32 (by decide) hsz ?_;intro v1 w3 hP1 hg1 hb1)
     exact ⟨⟨q+1,m'+1,nodes'++[y],_,by go_num,by omega,HML',by omega,hmN3,HNX,by rw [ints_append,List.map_append];exact hP1,b1.grown (Pool.hd hP) hg1 (by decide),Below.trans he (hb1.mono (by omega)),Nat.le_trans hsz hg1.size⟩,by simp [intOf];omega⟩
   ·obtain rfl:q=row.length:=by omega
    have h1:=HNUM.out
    rw [HRL.out] at h1
    obtain ⟨e1,-⟩:=h1.done
    have HNU:=Lib.hid e1.symm
    clear e1 h1
    go_wp2_with fail
    exact ⟨⟨k+1,m',nodes',by go_num,by omega,hmN2,HML,HNU,hP,b1,he,hsz⟩,by simp [intOf];omega⟩
def TrimEndS (A:Auto) (w:World) (e:Ending) (w':World):Prop:=∃v' B,e=.returned v'∧Ext w w'∧IsTrimF A B∧B.next.length≤A.next.length∧AutoOwn w.heap.size w' v' B
theorem take_rows {nodes:List Nat} {k n:Nat} (f:Nat→List Int) (h:nodes[k]?=some n):(nodes.take (k+1)).map f=(nodes.take k).map f++[f n]:=by
 rw [List.take_add_one,h,List.map_append];rfl
theorem take_accs {nodes:List Nat} {k n:Nat} (f:Nat→Bool) (h:nodes[k]?=some n):((nodes.take (k+1)).map f).map Value.bool=((nodes.take k).map f).map Value.bool++[Value.bool (f n)]:=by
 rw [List.take_add_one,h,List.map_append,List.map_append];rfl
theorem perm_tr (a n w:Slc) (R:List Slc):(a::n::w::R).Perm (n::a::(R++[w])):=
 (List.Perm.swap n a _).trans (((List.perm_append_singleton w R).symm.cons a).cons n)
theorem l5Trim_s (v:Value) (A:Auto) (w:World) (hv:AutoV w v A) (hA:AutoFit A) (hM:A.next.length≤100) :
  Calls Tryz.prog 211 #[v] w (TrimEndS A w):=by
 obtain ⟨vn,va,rfl,hN1,hA1⟩:=hv
 obtain ⟨an,cn,rfl,-,hn2⟩:=hN1.open
 obtain ⟨aa,ca,rfl,-,hat⟩:=hA1.open
 have HV:=Lib.hid (show ∀w',Ext w w'→AutoV w' (.agg #[.int .i64 A.alphabet,.slice an A.next.length cn,.slice aa A.accept.length ca]) A from fun w' h=>⟨_,_,rfl,hN1.mono h,hA1.mono h⟩)
 have HN2:=Lib.hid hn2
 have HAT:=Lib.hid hat
 have HX:=Lib.hid hA
 have HACC:=Lib.hid hA.acc
 have ha63:=hA.a63
 have hL6:(letters A.alphabet).length≤6:=lettersTo_len A.alphabet 6
 clear hN1 hA1 hn2 hat hA
 obtain ⟨wo,hwo⟩:∃wo,wo=(w.alloc (.cells #[.int .i64 A.alphabet,.slice an A.next.length cn,.slice aa A.accept.length ca] 31)).alloc (.cells #[.int .i64 0,.slice none 0 0,.slice none 0 0] 31):=⟨_,rfl⟩
 have he:Ext w wo:=by rw [hwo];exact (Ext.alloc _ _).trans (Ext.alloc _ _)
 have b1:Blk wo w.heap.size #[.int .i64 A.alphabet,.slice an A.next.length cn,.slice aa A.accept.length ca] 31:=by rw [hwo];exact Ext.blk (Ext.alloc _ _)
 have b2:Blk wo (w.heap.size+1) #[.int .i64 0,.slice none 0 0,.slice none 0 0] 31:=by rw [hwo];exact Ext.blk1 (Ext.refl _)
 go_enter Tryz.func211,Tryz.ntmps211
 go_upto_region 1 with fail
 rw [←hwo]
 clear hwo
 have c0:=b1.cell 0 rfl;have c1:=b1.cell 1 rfl;have c2:=b1.cell 2 rfl
 go_wp2_with fail
 refine (l5Order_s _ A _ (HV.out _ he) HX.out hM).mono ?_
 rintro e w1 ⟨vo,nodes,rfl,he1,hnum,hnl,hord⟩
 obtain ⟨ao,co,rfl,-,ho2⟩:=hord.open
 rw [ints_len] at *
 have HO2:=Lib.hid ho2
 have HORD:=Lib.hid (show ∀w',Ext w1 w'→IntsV w' (.slice ao nodes.length co) (ints nodes) from fun w' h=>hord.mono h)
 have HNU:=Lib.hid hnum
 have HLT:=Lib.hid (show ∀n∈nodes,n<A.next.length from fun n hn=>reach_lt HX.out.n1 (fun q l hq _=>HX.out.step_lt hq l) (hnum.reach n hn))
 have hwl:w.heap.size+1<wo.heap.size:=b2.lt
 replace he:=he.trans he1
 replace b1:=b1.ext he1
 replace b2:=b2.ext he1
 have l2w:w.heap.size+1<w1.heap.size:=b2.lt
 clear c0 c1 c2 hord ho2 hnum he1 hwl
 clear wo
 have c0:=b1.cell 0 rfl;have c1:=b1.cell 1 rfl;have c2:=b1.cell 2 rfl
 go_upto_region 3 with fail
 obtain ⟨w3,hw3⟩:∃w3,w3=w1.alloc (.cells #[.int .i64 A.alphabet,.slice none 0 0,.slice none 0 0] 31):=⟨_,rfl⟩
 have y3:Ext w1 w3:=by rw [hw3];exact Ext.alloc _ _
 have b7:Blk w3 w1.heap.size #[.int .i64 A.alphabet,.slice none 0 0,.slice none 0 0] 31:=by rw [hw3];exact Blk.new _ _ _
 rw [←hw3]
 clear hw3
 replace he:=he.trans y3
 replace b1:=b1.ext y3
 replace b2:=b2.ext y3
 have hP0:Pool w1.heap.size w3 [⟨96,1,.slice none 0 0,0,[]⟩,⟨4,1,.slice none 0 0,0,[]⟩]:=((Pool.nil w1.heap.size w3).addNil 4 1).addNil 96 1
 have sN3:w1.heap.size≤w3.heap.size:=y3.size
 obtain ⟨G,hG⟩:∃G,w1.heap.size=G:=⟨_,rfl⟩
 rw [hG] at b7 hP0 sN3 l2w⊢
 have HE1:Hid (∀w',Below G w3 w'→True):=Lib.hid fun _ _=>trivial
 clear c0 c1 c2 HE1
 go_wp2_with fail
 have hR0:Hid (([]:List Value).length=0):=Lib.hid rfl
 go_loopw [5] (fun i wr=>∃(k:Nat) (va vN:Value) (vs:List Value) (rows:List (List Int)),k≤nodes.length∧i=.int .i64 k∧Hid (vs.length=k)∧Hid (rows=(nodes.take k).map (rowN (nxT A) (letters A.alphabet) nodes))∧Blk wr G #[.int .i64 A.alphabet,vN,va] 31∧Pool G wr (⟨96,1,vN,k,vs⟩ :: ⟨4,1,va,k,((nodes.take k).map (accepts A)).map Value.bool⟩ :: slRows 3 vs rows)∧Blk wr w.heap.size #[.int .i64 A.alphabet,.slice an A.next.length cn,.slice aa A.accept.length ca] 31∧Blk wr (w.heap.size+1) #[.int .i64 0,.slice none 0 0,.slice none 0 0] 31∧Ext w wr∧Ext w1 wr) (fun i _=>nodes.length-(intOf i).toNat)
 case atStart=>exact ⟨0,_,_,[],[],by omega,rfl,hR0,Lib.hid rfl,b7,hP0,b1,b2,he,y3⟩
 case round=>
  clear b7 hP0 b1 b2 he sN3 hR0 y3
  obtain ⟨k,va,vN,vs,rows,hk,rfl,HVL,HRW,b7,hP,b1,b2,he,hy⟩:=hrel
  have hsz:G≤wr.heap.size:=by rw [←hG];exact hy.size
  obtain ⟨aN,cN,rfl⟩:=own_any' (Pool.hd hP)
  obtain ⟨aA,cA,rfl⟩:=own_any' (Pool.hd2 hP)
  by_cases hlt:k<nodes.length
  case neg=>
   obtain rfl:k=nodes.length:=by omega
   have hEND:AutoOwn G wr (.agg #[.int .i64 A.alphabet,.slice aN nodes.length cN,.slice aA nodes.length cA]) (autoN (nxT A) A.alphabet (accepts A) nodes):=by
    refine Pool.auto (x:=autoN (nxT A) A.alphabet (accepts A) nodes) (vs:=vs) (vn:=.slice aN nodes.length cN) (va:=.slice aA nodes.length cA) (w:=wr) (base:=G) ?_ (by rw [HVL.out];simp [autoN])
    have e1:(autoN (nxT A) A.alphabet (accepts A) nodes).next=rows:=by rw [HRW.out,List.take_length];rfl
    have e2:(autoN (nxT A) A.alphabet (accepts A) nodes).accept=(nodes.take nodes.length).map (accepts A):=by rw [List.take_length];rfl
    rw [e1,e2,HRW.out,List.length_map,List.length_map,List.length_take,Nat.min_self,←HRW.out]
    exact hP
   have HEND:=Lib.hid hEND
   have gc0:=b7.cell 0 rfl;have gc1:=b7.cell 1 rfl;have gc2:=b7.cell 2 rfl
   have rc0:=b2.cell 0 rfl;have rf0:=b2.fr 0;have rc1:=b2.cell 1 rfl;have rf1:=b2.fr 1;have rc2:=b2.cell 2 rfl;have rf2:=b2.fr 2
   clear hEND hP b1
   go_wp2_with fail
   refine bodyPost_ret (v:=.agg #[.int .i64 A.alphabet,.slice aN nodes.length cN,.slice aA nodes.length cA]) (by simp [results,Tryz.results211,go_sem,rc0,rc1,rc2,rf0,rf1,rf2]) rfl ?_
   refine ⟨_,_,rfl,(((he.setCell (p:=⟨(w.heap.size+1),0,none⟩) (by simp only [];omega) _).setCell (p:=⟨(w.heap.size+1),1,none⟩) (by simp only [];omega) _).setCell (p:=⟨(w.heap.size+1),2,none⟩) (by simp only [];omega) _),⟨nodes,HNU.out,rfl⟩,by simpa [autoN] using hnl,?_⟩
   exact (auto_store (auto_store (auto_store HEND.out b2 (by decide) (by decide) (by decide) 0 _) (b2.set 0 _) (by decide) (by decide) (by decide) 1 _) ((b2.set 0 _).set 1 _) (by decide) (by decide) (by decide) 2 _).low (by omega)
  obtain ⟨n,hnk⟩:∃n,nodes[k]?=some n:=⟨_,List.getElem?_eq_getElem hlt⟩
  have hnN:=HLT.out n (List.mem_of_getElem? hnk)
  obtain ⟨bo,oo,rfl,-,hco⟩:=HO2.out k (n:Int) (ints_at hnk)
  have gs1:=hco k (n:Int) (ints_at hnk)
  rw [Nat.mul_one] at gs1
  have gs:=hy.cell gs1
  obtain ⟨row,hr,hrl,-⟩:=HX.out.row hnN
  obtain ⟨b,off,rfl,-,hc3⟩:=HN2.out n row hr
  obtain ⟨vr,g1,hvr⟩:=hc3 n row hr
  rw [Nat.mul_one] at g1
  obtain ⟨ar,cr,rfl,-,hrr⟩:=hvr.open
  have HG1:=Lib.hid g1
  have HGS:=Lib.hid gs1
  have HRR:=Lib.hid hrr
  have HR1:=Lib.hid hr
  have HNK:=Lib.hid hnk
  have HRL:=Lib.hid (show row.length=(letters A.alphabet).length from hrl)
  have hrow6:row.length≤6:=by rw [HRL.out];exact hL6
  have hki:(k:Int)<(nodes.length:Int):=by omega
  have hnA:(n:Int)<(A.next.length:Int):=by omega
  have hPW:=hP.addLit 3 1 (Nat.le_refl _) hsz (Ext.alloc wr (.cells #[] 3)) (Blk.new _ _ _)
  have b71:=b7.ext (Ext.alloc wr (.cells #[] 3))
  have b11:=b1.ext (Ext.alloc wr (.cells #[] 3))
  have b21:=b2.ext (Ext.alloc wr (.cells #[] 3))
  have he1:=he.trans (Ext.alloc wr (.cells #[] 3))
  have hy1:=hy.trans (Ext.alloc wr (.cells #[] 3))
  clear hc3 hr hvr hrr hrl g1 hnk hco gs gs1
  go_wp2_with fail
  clear b7 b1 b2 he hy hP hsz
  generalize wr.alloc (.cells #[] 3)=wl at hPW b71 b11 b21 he1 hy1⊢
  generalize wr.heap.size=gW at hPW⊢
  clear wr
  go_loopw [6,7] (fun vW j wr=>∃q:Nat,q≤row.length∧j=.int .i64 q∧Blk wr G #[.int .i64 A.alphabet,.slice aN k cN,.slice aA k cA] 31∧Pool G wr (⟨3,1,vW,q,(((letters A.alphabet).take q).map fun l=>((nodes.idxOf (nxT A n l):Nat):Int)).map (Value.int .i64)⟩ :: ⟨96,1,.slice aN k cN,k,vs⟩ :: ⟨4,1,.slice aA k cA,k,((nodes.take k).map (accepts A)).map Value.bool⟩ :: slRows 3 vs rows)∧Blk wr w.heap.size #[.int .i64 A.alphabet,.slice (some ⟨b,off,none⟩) A.next.length cn,.slice aa A.accept.length ca] 31∧Blk wr (w.heap.size+1) #[.int .i64 0,.slice none 0 0,.slice none 0 0] 31∧Ext w wr∧Ext w1 wr) (fun _ j _=>row.length-(intOf j).toNat)
  case atStart=>exact ⟨0,by omega,rfl,b71,hPW,b11,b21,he1,hy1⟩
  case round=>
   clear hPW b71 b11 b21 he1 hy1
   obtain ⟨q,hq,rfl,b7,hP,b1,b2,he,hy⟩:=hrel
   have hsz:G≤wr.heap.size:=by rw [←hG];exact hy.size
   obtain ⟨aW,cW,rfl⟩:=own_any' (Pool.hd hP)
   have gs:=hy.cell HGS.out
   have g1:=he.cell HG1.out
   have D0:=fun d os=>cell_regrown (b1.cell 1 rfl) d os
   have D1:=fun d os=>cell_regrown gs d os
   have D2:=fun d os=>cell_regrown g1 d os
   go_wp2_with fail
   refine wp_region_quiet_below (by kernel_rfl) (by kernel_rfl) ?_
   repeat (go_big_quiet_step (fail))
   refine wpQuiet_nil ?_
   intro _ hw'
   obtain ⟨⟨dq,osq⟩,hw''⟩:=hw'
   subst hw''
   have hq2:Ext wr (Go.Sort.grow (redrawn wr dq) osq):=below_regrown wr dq osq
   generalize Go.Sort.grow (redrawn wr dq) osq=wq at hq2⊢
   clear D0 D1 D2 gs g1
   replace hP:=hP.ext hq2
   replace b7:=b7.ext hq2
   replace b1:=b1.ext hq2
   replace b2:=b2.ext hq2
   replace he:=he.trans hq2
   replace hy:=hy.trans hq2
   replace hsz:=Nat.le_trans hsz hq2.size
   clear hq2
   by_cases hql:q<row.length
   ·obtain ⟨l,hl⟩:∃l,(letters A.alphabet)[q]?=some l:=⟨_,List.getElem?_eq_getElem (by rw [←HRL.out];exact hql)⟩
    obtain ⟨hz,hzn⟩:=row_entry HX.out hnN HR1.out hl
    have hym:nxT A n l∈nodes:=HNU.out.closed (List.mem_of_getElem? HNK.out) (List.mem_of_getElem? hl)
    rw [show step A n l=nxT A n l from rfl] at hz hzn
    obtain ⟨y,hyy⟩:∃y,nxT A n l=y:=⟨_,rfl⟩
    rw [hyy] at hz hzn hym
    obtain ⟨b5,off5,rfl,-,hc2⟩:=HRR.out q _ hz
    have g2:=he.cell (hc2 q _ hz)
    rw [Nat.mul_one] at g2
    have hqi:(q:Int)<(row.length:Int):=by omega
    obtain ⟨ix,hix⟩:∃ix,nodes.idxOf y=ix:=⟨_,rfl⟩
    have HFE:Hid (((nodes.idxOf (nxT A n l):Nat):Int)=(ix:Int)):=Lib.hid (by rw [hyy,hix])
    have HL:=Lib.hid hl
    have HIX:=Lib.hid (fun w' (h:Ext w1 w')=>(by
     have:=l5Index_c _ (ints nodes) (y:Int) w' (HORD.out w' h) (by rw [ints_len];omega) (mem_ints.2 hym)
     rw [idxOf_ints,hix] at this;exact this:Calls Tryz.prog 213 #[.slice (some ⟨bo,oo,none⟩) nodes.length co,.int .i64 (y:Int)] w' (Same (.int .i64 (ix:Nat)) w')))
    have gs:=hy.cell HGS.out
    have g1:=he.cell HG1.out
    have D0:=fun d os=>cell_regrown (b1.cell 1 rfl) d os
    have D1:=fun d os=>cell_regrown gs d os
    have D2:=fun d os=>cell_regrown g1 d os
    have D3:=fun d os=>cell_regrown g2 d os
    clear hc2 hz hl hyy hym hix gs g1 g2
    go_wp2_with fail
    obtain ⟨Kc,HKc⟩:∃Kc:FuncId→Array Value→World→Value→World→Prop,Hid (Kc=fun f args w0 v w'=>w'=w0∧v=.int .i64 (ix:Int)):=⟨_,rfl⟩
    refine wp_region_ext (Kc:=Kc) 15 (by kernel_rfl) (by kernel_rfl) ?_
    simp only [List.take_succ_cons,List.take_zero]
    repeat (refine WalkE.pure rfl (fun K hK=>?_);simp only [PureDo];go_simp;refine hK _ ?_;clear hK K)
    refine WalkE.step (fun K hK wc hwc hdc=>?_)
    simp only [OpDo,OpSafe,OpOut]
    go_simp
    refine ⟨(HIX.out _ (hy.trans ((Ext.drew _).trans hwc))).mono ?_,?_⟩
    ·rintro e w' ⟨rfl,rfl⟩
     exact ⟨_,rfl,by rw [HKc.out];exact ⟨rfl,rfl⟩⟩
    intro u4 w4 hk4
    rw [HKc.out] at hk4
    obtain ⟨rfl,rfl⟩:=hk4
    refine ⟨Ext.refl _,hK _ _ ?_⟩
    clear hK K hdc hwc
    refine WalkE.step (fun K hK we hwe hde=>?_)
    simp only [OpDo,OpSafe,OpOut]
    go_simp
    refine ⟨Ext.alloc _ _,hK _ _ ?_⟩
    clear hK K hde
    refine WalkE.nil (fun wn hwn hmn=>?_)
    simp only [List.drop_succ_cons,List.drop_zero,List.drop_nil]
    have x0:Ext wq wn:=(Ext.drew _).trans hwn
    have hbn:Blk wn we.heap.size #[.int .i64 (ix:Int)] 3:=(Blk.new we _ _).ext (hmn 14 (by omega))
    have hcell:∀(j:Nat) u,[Value.int .i64 (ix:Int)][j]?=some u→wn.cell? ((⟨we.heap.size,0,none⟩:Addr).add j)=some u:=fun j u hu=>by
     rw [add_none,Nat.zero_add]
     exact hbn.cell j (by simpa using hu)
    have hP3:=hP.ext x0
    have b73:=b7.ext x0
    have b13:=b1.ext x0
    have b23:=b2.ext x0
    have he3:=he.trans x0
    have hy3:=hy.trans x0
    have hs3:=Nat.le_trans hsz x0.size
    clear hmn HKc D0 D1 D2 D3 hwn hwe hbn x0 hP b7 b1 b2 he hy hsz HIX
    generalize we.heap.size=gN at hcell⊢
    have hq32:q+1≤4294967296:=by omega
    go_wp2_with (at_builtin;refine appPN (news:=[Value.int .i64 (ix:Int)]) rfl rfl Tryz.underlying96 infoInt rfl (by decide) hP3 rfl rfl (by simp) hcell (by simp [Value.oneCell']) hq32 (by decide) hs3 ?_;intro v1 w7 hP1 hg1 hb1)
    have hd:=Pool.hd hP3
    refine ⟨⟨q+1,by omega,by go_num,b73.grown hd hg1 (by decide),?_,b13.grown hd hg1 (by decide),b23.grown hd hg1 (by decide),Below.trans he3 (hb1.mono (by omega)),Below.trans hy3 (hb1.mono (by omega))⟩,by simp [intOf];omega⟩
    rw [List.take_add_one,HL.out,List.map_append,List.map_append,Option.toList_some,List.map_singleton,List.map_singleton,HFE.out]
    exact hP1
   ·obtain rfl:q=row.length:=by omega
    have HROW:Hid (((letters A.alphabet).take row.length).map (fun l=>((nodes.idxOf (nxT A n l):Nat):Int))=rowN (nxT A) (letters A.alphabet) nodes n):=Lib.hid (by rw [HRL.out,List.take_length];rfl)
    rw [HROW.out] at hP
    have HRLN:Hid ((rowN (nxT A) (letters A.alphabet) nodes n).length=row.length):=Lib.hid (by rw [HRL.out];simp [rowN])
    have hPN:=hP.perm (List.Perm.swap _ _ _)
    have d71:=b7.cell 1 rfl
    have hm32:k≤4294967296:=by omega
    clear hP
    go_wp2_with (at_builtin;refine appP (news:=[Value.slice aW row.length cW]) rfl rfl Tryz.underlying28 infoInts rfl (by decide) hPN rfl rfl rfl (by simp [Value.oneCell']) hm32 (by decide) hsz ?_;intro v1 w6 hP1 hg1 hb1;obtain ⟨a1,c1,rfl⟩:=own_any' (Pool.hd hP1);have b76:=b7.grown (Pool.hd hPN) hg1 (by decide);have g2:=b76.cell 1 rfl;have f2:=b76.fr 1)
    have hd:=Pool.hd hPN
    have b77:=b76.set 1 (.slice a1 (k+1) c1)
    have b17:=(b1.grown hd hg1 (by decide)).other (p:=⟨G,1,none⟩) (by simp only [];omega) (.slice a1 (k+1) c1)
    have b27:=(b2.grown hd hg1 (by decide)).other (p:=⟨G,1,none⟩) (by simp only [];omega) (.slice a1 (k+1) c1)
    have he7:Ext w (w6.setCell ⟨G,1,none⟩ (.slice a1 (k+1) c1)):=(Below.trans he (hb1.mono (by omega))).setCell (p:=⟨G,1,none⟩) (by simp only [];omega) (.slice a1 (k+1) c1)
    have hy7:Ext w1 (w6.setCell ⟨G,1,none⟩ (.slice a1 (k+1) c1)):=(Below.trans hy (hb1.mono (by omega))).setCell (p:=⟨G,1,none⟩) (by simp only [];omega) (.slice a1 (k+1) c1)
    have hs7:G≤(w6.setCell ⟨G,1,none⟩ (.slice a1 (k+1) c1)).heap.size:=by simp;exact Nat.le_trans hsz hg1.size
    have hP7:=Pool.set hP1 b76 (fun t ht=>by
     rcases List.mem_cons.1 ht with e | ht
     ·rw [e];dsimp only;decide
     rcases List.mem_cons.1 ht with e | ht
     ·rw [e];dsimp only;decide
     rcases List.mem_cons.1 ht with e | ht
     ·rw [e];dsimp only;decide
     ·rw [slRows_e t ht];decide) 1 (.slice a1 (k+1) c1)
    clear hP1 hPN hd b7 b76 b1 b2 he hy hb1 hg1 hsz g2 f2 d71
    generalize w6.setCell ⟨G,1,none⟩ (.slice a1 (k+1) c1)=w7 at b77 b17 b27 he7 hy7 hs7 hP7⊢
    clear w6
    have hP8:=hP7.perm (((List.Perm.swap _ _ _).cons _).trans (List.Perm.swap _ _ _))
    obtain ⟨b9,o9,rfl,-,hc9⟩:=HAT.out n _ (HX.out.accepts_at hnN)
    have g9:w7.cell? ⟨b9,o9+n,none⟩=some (.bool (accepts A n)):=by have:=hc9 n _ (HX.out.accepts_at hnN);rw [Nat.mul_one] at this;exact he7.cell this
    obtain ⟨z,hz⟩:∃z,accepts A n=z:=⟨_,rfl⟩
    rw [hz] at g9
    have HZ:=Lib.hid hz
    have i1:(n:Int)<(A.accept.length:Int):=by have:=HACC.out;omega
    have gs:=hy7.cell HGS.out
    have D0:=fun d os=>cell_regrown (b77.cell 2 rfl) d os
    have D1:=fun d os=>cell_regrown (b17.cell 2 rfl) d os
    have D2:=fun d os=>cell_regrown g9 d os
    have D3:=fun d os=>cell_regrown gs d os
    clear hP7 hc9 hz gs
    obtain ⟨Kc,HKc⟩:∃Kc:FuncId→Array Value→World→Value→World→Prop,Hid (Kc=fun _ _ _ _ _=>False):=⟨_,rfl⟩
    refine wp_region_ext (Kc:=Kc) 11 (by kernel_rfl) (by kernel_rfl) ?_
    simp only [List.take_succ_cons,List.take_zero]
    repeat (refine WalkE.pure rfl (fun K hK=>?_);simp only [PureDo];go_simp;refine hK _ ?_;clear hK K)
    refine WalkE.step (fun K hK we hwe hde=>?_)
    simp only [OpDo,OpSafe,OpOut]
    go_simp
    refine ⟨Ext.alloc _ _,hK _ _ ?_⟩
    clear hK K hde
    refine WalkE.nil (fun wn hwn hmn=>?_)
    simp only [List.drop_succ_cons,List.drop_zero,List.drop_nil]
    have x0:Ext w7 wn:=(Ext.drew _).trans hwn
    have hbn:Blk wn we.heap.size #[.bool z] 4:=(Blk.new we _ _).ext (hmn 10 (by omega))
    have hcell:∀(j:Nat) u,[Value.bool z][j]?=some u→wn.cell? ((⟨we.heap.size,0,none⟩:Addr).add j)=some u:=fun j u hu=>by
     rw [add_none,Nat.zero_add]
     exact hbn.cell j (by simpa using hu)
    have hP9:=hP8.ext x0
    have b73:=b77.ext x0
    have b13:=b17.ext x0
    have b23:=b27.ext x0
    have he3:=he7.trans x0
    have hy3:=hy7.trans x0
    have hs3:=Nat.le_trans hs7 x0.size
    clear hmn HKc D0 D1 D2 D3 hwn hwe hbn x0 hP8 b77 b17 b27 he7 hy7 hs7 g9 i1
    generalize we.heap.size=gN at hcell⊢
    have hk32:k+1≤4294967296:=by omega
    go_wp2_with (at_builtin;refine appPN (news:=[Value.bool z]) rfl rfl Tryz.underlying29 infoBool rfl (by decide) hP9 rfl rfl (by simp) hcell (by simp [Value.oneCell']) hk32 (by decide) hs3 ?_;intro v1 w8 hP1 hg1 hb1;obtain ⟨a2,c2,rfl⟩:=own_any' (Pool.hd hP1);have b74:=b73.grown (Pool.hd hP9) hg1 (by decide);have g2:=b74.cell 2 rfl;have f2:=b74.fr 2)
    have hd:=Pool.hd hP9
    refine ⟨⟨k+1,_,_,vs++[.slice aW row.length cW],rows++[rowN (nxT A) (letters A.alphabet) nodes n],by omega,by go_num,Lib.hid (by rw [List.length_append,HVL.out];rfl),Lib.hid (by rw [take_rows _ HNK.out,HRW.out]),b74.set 2 (.slice a2 (k+1) c2),?_,(b13.grown hd hg1 (by decide)).other (p:=⟨G,2,none⟩) (by simp only [];omega) _,(b23.grown hd hg1 (by decide)).other (p:=⟨G,2,none⟩) (by simp only [];omega) _,(Below.trans he3 (hb1.mono (by omega))).setCell (p:=⟨G,2,none⟩) (by simp only [];omega) _,(Below.trans hy3 (hb1.mono (by omega))).setCell (p:=⟨G,2,none⟩) (by simp only [];omega) _⟩,by simp [intOf];omega⟩
    have hPS:=Pool.set hP1 b74 (fun t ht=>by
     rcases List.mem_cons.1 ht with e | ht
     ·rw [e];dsimp only;decide
     rcases List.mem_cons.1 ht with e | ht
     ·rw [e];dsimp only;decide
     rcases List.mem_cons.1 ht with e | ht
     ·rw [e];dsimp only;decide
     ·rw [slRows_e t ht];decide) 2 (.slice a2 (k+1) c2)
    have hF:=hPS.perm (perm_tr _ _ _ _)
    rw [slRows_push (by rw [HVL.out,HRW.out,List.length_map,List.length_take];omega),take_accs _ HNK.out,HZ.out]
    unfold slInts
    rw [HRLN.out]
    exact hF
theorem setsL_snoc (n:Nat) (f:Sets):setsL (n+1) f=setsL n f++[(f n:Int)]:=by simp [setsL,List.range_succ]
theorem setsL_eq {n:Nat} {f g:Sets} (h:∀p,p<n→f p=g p):setsL n f=setsL n g:=by
 unfold setsL
 exact List.map_congr_left fun p hp=>by rw [h p (by simpa using hp)]
theorem sets_cell {w:World} {v:Value} {n:Nat} {f:Sets} (h:IntsV w v (setsL n f)):∃a c,v=.slice a n c∧∀p,p<n→∃b off,a=some ⟨b,off,none⟩∧w.cell? ⟨b,off+p,none⟩=some (.int .i64 (f p:Int)):=by
 obtain ⟨a,c,rfl,-,h2⟩:=h.open
 refine ⟨a,c,by rw [setsL_len],fun p hp=>?_⟩
 obtain ⟨b,off,rfl,-,hc⟩:=h2 p _ (setsL_at f hp)
 have:=hc p _ (setsL_at f hp)
 rw [Nat.mul_one] at this
 exact ⟨b,off,rfl,this⟩
theorem l5Same_s (v vc:Value) (A:Auto) (c:Sets) (i j:Nat) (w:World) (hv:AutoV w v A) (hA:AutoFit A) (hc:IntsV w vc (setsL A.next.length c)) (hi:i<A.next.length) (hj:j<A.next.length) {b:Bool} (hb:decide (sig A c i=sig A c j)=b) :
  Calls Tryz.prog 308 #[v,vc,.int .i64 i,.int .i64 j] w (Grows (.bool b) w):=by
 obtain ⟨vn,va,rfl,hN1,hA1⟩:=hv
 obtain ⟨an,cn,rfl,-,hn2⟩:=hN1.open
 obtain ⟨aa,ca,rfl,-,-⟩:=hA1.open
 obtain ⟨ac,cc,rfl,hcc⟩:=sets_cell hc
 obtain ⟨bc,oc,rfl,gi0⟩:=hcc i hi
 have HX:=Lib.hid hA
 have HB:=Lib.hid hb
 have hL6:(letters A.alphabet).length≤6:=lettersTo_len A.alphabet 6
 have HCC:=Lib.hid (show ∀p,p<A.next.length→w.cell? ⟨bc,oc+p,none⟩=some (.int .i64 (c p:Int)) from fun p hp=>by
  obtain ⟨b,off,e,h⟩:=hcc p hp
  cases e
  exact h)
 have gj0:=HCC.out j hj
 obtain ⟨rowi,hri,hril,-⟩:=hA.row hi
 obtain ⟨rowj,hrj,hrjl,-⟩:=hA.row hj
 obtain ⟨bn,on,rfl,-,hcn⟩:=hn2 i rowi hri
 obtain ⟨vi,ni,hvi⟩:=hcn i rowi hri
 obtain ⟨vj,nj,hvj⟩:=hcn j rowj hrj
 rw [Nat.mul_one] at ni nj
 obtain ⟨ai,ci,rfl,-,hii⟩:=hvi.open
 obtain ⟨aj,cj,rfl,-,hjj⟩:=hvj.open
 have HII:=Lib.hid hii
 have HJJ:=Lib.hid hjj
 have HRI:=Lib.hid hri
 have HRJ:=Lib.hid hrj
 have HLI:=Lib.hid (show rowi.length=(letters A.alphabet).length from hril)
 have HLJ:=Lib.hid (show rowj.length=(letters A.alphabet).length from hrjl)
 have HNI:=Lib.hid ni
 have HNJ:=Lib.hid nj
 have hrow6:rowi.length≤6:=by rw [HLI.out];exact hL6
 have hii':(i:Int)<(A.next.length:Int):=by omega
 have hjj':(j:Int)<(A.next.length:Int):=by omega
 obtain ⟨wo,hwo⟩:∃wo,wo=w.alloc (.cells #[.int .i64 A.alphabet,.slice (some ⟨bn,on,none⟩) A.next.length cn,.slice aa A.accept.length ca] 31):=⟨_,rfl⟩
 have he:Ext w wo:=by rw [hwo];exact Ext.alloc _ _
 have b1:Blk wo w.heap.size #[.int .i64 A.alphabet,.slice (some ⟨bn,on,none⟩) A.next.length cn,.slice aa A.accept.length ca] 31:=by rw [hwo];exact Blk.new _ _ _
 obtain ⟨x,hx⟩:∃x,c i=x:=⟨_,rfl⟩
 obtain ⟨y,hy⟩:∃y,c j=y:=⟨_,rfl⟩
 have g1:=he.cell gi0
 have g2:=he.cell gj0
 rw [hx] at g1
 rw [hy] at g2
 have HXX:=Lib.hid hx
 have HYY:=Lib.hid hy
 clear hN1 hA1 hn2 hA hcc hc gi0 gj0 hri hrj hril hrjl hcn hvi hvj hii hjj ni nj hx hy hb
 go_enter Tryz.func308,Tryz.ntmps308
 go_upto_region 1 with fail
 rw [←hwo]
 clear hwo
 have D0:=fun d os=>cell_regrown g1 d os
 have D1:=fun d os=>cell_regrown g2 d os
 go_wp2_with fail
 refine wp_region_quiet_below (by kernel_rfl) (by kernel_rfl) ?_
 repeat (go_big_quiet_step (fail))
 refine wpQuiet_nil ?_
 intro _ hw'
 obtain ⟨⟨dq,osq⟩,hw''⟩:=hw'
 subst hw''
 have hq2:Ext wo (Go.Sort.grow (redrawn wo dq) osq):=below_regrown wo dq osq
 generalize Go.Sort.grow (redrawn wo dq) osq=wq at hq2⊢
 clear D0 D1 g1 g2
 replace he:=he.trans hq2
 replace b1:=b1.ext hq2
 clear hq2
 by_cases hxy:x=y
 case neg=>
  have h1n:((x:Int) != (y:Int))=true:=by simp;omega
  have HF:Hid (b=false):=Lib.hid (by rw [←HB.out];exact decide_eq_false fun h=>hxy (by rw [←HXX.out,←HYY.out];exact (sig_iff.1 h).1))
  clear hxy
  go_wp2_with fail
  go_ret
  exact Grows.mk (by rw [HF.out];rfl) he
 have h1n:((x:Int) != (y:Int))=false:=by simp;omega
 have HEQ:Hid (c i=c j):=Lib.hid (by rw [HXX.out,HYY.out];exact hxy)
 clear hxy
 go_wp2_with fail
 go_loopw [9] (fun k wr=>∃q:Nat,q≤rowi.length∧k=.int .i64 q∧Hid (∀p l,p<q→(letters A.alphabet)[p]?=some l→c (step A i l)=c (step A j l))∧Blk wr w.heap.size #[.int .i64 A.alphabet,.slice (some ⟨bn,on,none⟩) A.next.length cn,.slice aa A.accept.length ca] 31∧Ext w wr) (fun k _=>rowi.length-(intOf k).toNat)
 case atStart=>exact ⟨0,by omega,rfl,Lib.hid (fun p l hp=>by omega),b1,he⟩
 case round=>
  clear b1 he
  obtain ⟨q,hq,rfl,HQ,b1,he⟩:=hrel
  have ni:=he.cell HNI.out
  have nj:=he.cell HNJ.out
  have d1:=b1.cell 1 rfl
  by_cases hql:q<rowi.length
  ·obtain ⟨l,hl⟩:∃l,(letters A.alphabet)[q]?=some l:=⟨_,List.getElem?_eq_getElem (by rw [←HLI.out];exact hql)⟩
   obtain ⟨zi,zin⟩:=row_entry HX.out hi HRI.out hl
   obtain ⟨zj,zjn⟩:=row_entry HX.out hj HRJ.out hl
   obtain ⟨yi,hyi⟩:∃yi,step A i l=yi:=⟨_,rfl⟩
   obtain ⟨yj,hyj⟩:∃yj,step A j l=yj:=⟨_,rfl⟩
   rw [hyi] at zi zin
   rw [hyj] at zj zjn
   obtain ⟨b5,off5,rfl,-,hc2⟩:=HII.out q _ zi
   have ei:=he.cell (hc2 q _ zi)
   obtain ⟨b6,off6,rfl,-,hc3⟩:=HJJ.out q _ zj
   have ej:=he.cell (hc3 q _ zj)
   rw [Nat.mul_one] at ei ej
   have ki:=he.cell (HCC.out yi zin)
   have kj:=he.cell (HCC.out yj zjn)
   obtain ⟨u,hu⟩:∃u,c yi=u:=⟨_,rfl⟩
   obtain ⟨v,hv⟩:∃v,c yj=v:=⟨_,rfl⟩
   rw [hu] at ki
   rw [hv] at kj
   have HU:Hid (c (step A i l)=u):=Lib.hid (by rw [hyi,hu])
   have HV:Hid (c (step A j l)=v):=Lib.hid (by rw [hyj,hv])
   have HL:=Lib.hid hl
   have hq1:(q:Int)<(rowi.length:Int):=by omega
   have hq2':(q:Int)<(rowj.length:Int):=by rw [HLJ.out,←HLI.out];omega
   have hi1:(yi:Int)<(A.next.length:Int):=by omega
   have hj1:(yj:Int)<(A.next.length:Int):=by omega
   clear zi zj hc2 hc3 hu hv hyi hyj hl
   go_wp2_with fail
   have D0:=fun d os=>cell_regrown d1 d os
   have D1:=fun d os=>cell_regrown ni d os
   have D2:=fun d os=>cell_regrown nj d os
   have D3:=fun d os=>cell_regrown ei d os
   have D4:=fun d os=>cell_regrown ej d os
   have D5:=fun d os=>cell_regrown ki d os
   have D6:=fun d os=>cell_regrown kj d os
   refine wp_region_quiet_below (by kernel_rfl) (by kernel_rfl) ?_
   repeat (go_big_quiet_step (fail))
   refine wpQuiet_nil ?_
   intro _ hw'
   obtain ⟨⟨dq,osq⟩,hw''⟩:=hw'
   subst hw''
   have hq2:Ext wr (Go.Sort.grow (redrawn wr dq) osq):=below_regrown wr dq osq
   generalize Go.Sort.grow (redrawn wr dq) osq=wq at hq2⊢
   clear D0 D1 D2 D3 D4 D5 D6 d1 ni nj ei ej ki kj
   replace he:=he.trans hq2
   replace b1:=b1.ext hq2
   clear hq2
   by_cases huv:u=v
   ·have h2n:((u:Int) != (v:Int))=false:=by simp;omega
    have HQ2:Hid (∀p l,p<q+1→(letters A.alphabet)[p]?=some l→c (step A i l)=c (step A j l)):=Lib.hid (fun p l' hp hl'=>by
     by_cases hpq:p<q
     ·exact HQ.out p l' hpq hl'
     ·obtain rfl:p=q:=by omega
      rw [HL.out] at hl'
      cases hl'
      rw [HU.out,HV.out];exact huv)
    clear huv
    go_wp2_with fail
    exact ⟨⟨q+1,by omega,by go_num,HQ2,b1,he⟩,by simp [intOf];omega⟩
   ·have h2n:((u:Int) != (v:Int))=true:=by simp;omega
    have HF:Hid (b=false):=Lib.hid (by rw [←HB.out];exact decide_eq_false fun h=>huv (by rw [←HU.out,←HV.out];exact (sig_iff.1 h).2 l (List.mem_of_getElem? HL.out)))
    clear huv
    go_wp2_with fail
    go_ret
    exact Grows.mk (by rw [HF.out];rfl) he
  ·obtain rfl:q=rowi.length:=by omega
   have HT:Hid (b=true):=Lib.hid (by
    rw [←HB.out]
    refine decide_eq_true (sig_iff.2 ⟨HEQ.out,fun l hl=>?_⟩)
    obtain ⟨p,hp⟩:=List.getElem?_of_mem hl
    exact HQ.out p l (by rw [HLI.out];exact (List.getElem?_eq_some_iff.1 hp).1) hp)
   go_wp2_with fail
   go_ret
   exact Grows.mk (by rw [HT.out];rfl) he
def RefEnd (A:Auto) (c:Sets) (w:World) (e:Ending) (w':World):Prop:=
 ∃v,e=.returned (.tuple #[v,.int .i64 ((sigD A c).length:Int)])∧Ext w w'∧IntsV w' v (setsL A.next.length (refine1 A c))
theorem ref_new {A:Auto} {c:Sets} {k:Nat} (hk:k<A.next.length) (h:∀p,p<k→sig A c p≠sig A c k):refine1 A c k=(ddTo (sig A c) k).length∧(ddTo (sig A c) (k+1)).length=(ddTo (sig A c) k).length+1:=by
 have hn:sig A c k∉ddTo (sig A c) k:=fun hm=>by
  obtain ⟨p,hp,e⟩:=mem_ddTo.1 hm
  exact h p hp e
 refine ⟨ddTo_new hk hn,?_⟩
 rw [ddTo_succ,show addN (ddTo (sig A c) k) (sig A c k)=_ from if_neg hn]
 simp
theorem ref_old {A:Auto} {c:Sets} {k p:Nat} (hk:k<A.next.length) (hp:p<k) (h:sig A c p=sig A c k):refine1 A c p=refine1 A c k∧(ddTo (sig A c) (k+1)).length=(ddTo (sig A c) k).length:=by
 refine ⟨(refine_iff (by omega) hk).2 h,?_⟩
 rw [ddTo_succ,show addN (ddTo (sig A c) k) (sig A c k)=_ from if_pos (mem_ddTo.2 ⟨p,hp,h⟩)]
theorem l5Refine_s (v vc:Value) (A:Auto) (c:Sets) (w:World) (hv:AutoV w v A) (hA:AutoFit A) (hM:A.next.length≤100) (hc:IntsV w vc (setsL A.next.length c)) :
  Calls Tryz.prog 282 #[v,vc] w (RefEnd A c w):=by
 obtain ⟨vn,va,rfl,hN1,hA1⟩:=hv
 obtain ⟨an,cn,rfl,-,-⟩:=hN1.open
 obtain ⟨aa,ca,rfl,-,-⟩:=hA1.open
 have HV:=Lib.hid (show ∀w',Ext w w'→AutoV w' (.agg #[.int .i64 A.alphabet,.slice an A.next.length cn,.slice aa A.accept.length ca]) A from fun w' h=>⟨_,_,rfl,hN1.mono h,hA1.mono h⟩)
 have HC:=Lib.hid (show ∀w',Ext w w'→IntsV w' vc (setsL A.next.length c) from fun w' h=>hc.mono h)
 obtain ⟨ac,cc,rfl,-⟩:=sets_cell hc
 have HX:=Lib.hid hA
 obtain ⟨N,hN⟩:∃N,A.next.length=N:=⟨_,rfl⟩
 have HNL:=Lib.hid hN
 rw [hN] at hM
 clear hN1 hA1 hc hA
 obtain ⟨wo,hwo⟩:∃wo,wo=w.alloc (.cells #[.int .i64 A.alphabet,.slice an A.next.length cn,.slice aa A.accept.length ca] 31):=⟨_,rfl⟩
 have he:Ext w wo:=by rw [hwo];exact Ext.alloc _ _
 have b1:Blk wo w.heap.size #[.int .i64 A.alphabet,.slice an A.next.length cn,.slice aa A.accept.length ca] 31:=by rw [hwo];exact Blk.new _ _ _
 have hP0:=(Pool.nil wo.heap.size wo).addLit 3 1 (Nat.le_refl _) (Nat.le_refl _) (Ext.alloc wo (.cells #[] 3)) (Blk.new _ _ _)
 have HSAME:=Lib.hid (fun w' (h:Ext w w') (i j:Nat) (hi:i<N) (hj:j<N) b (hb:decide (sig A c i=sig A c j)=b)=>(by
  have:=l5Same_s _ _ A c i j w' (HV.out w' h) HX.out (HC.out w' h) (by rw [HNL.out];exact hi) (by rw [HNL.out];exact hj) hb
  exact this:Calls Tryz.prog 308 #[.agg #[.int .i64 A.alphabet,.slice an A.next.length cn,.slice aa A.accept.length ca],.slice ac A.next.length cc,.int .i64 i,.int .i64 j] w' (Grows (.bool b) w')))
 rw [hN] at hwo b1 HSAME⊢
 clear hN HV HC
 go_enter Tryz.func282,Tryz.ntmps282
 go_upto_region 1 with fail
 rw [←hwo]
 clear hwo
 go_wp2_with fail
 have b10:=b1.ext (Ext.alloc wo (.cells #[] 3))
 have he0:=he.trans (Ext.alloc wo (.cells #[] 3))
 have hs0:wo.heap.size≤(wo.alloc (.cells #[] 3)).heap.size:=(Ext.alloc wo (.cells #[] 3)).size
 have hwb:w.heap.size≤wo.heap.size:=he.size
 clear b1 he
 generalize wo.alloc (.cells #[] 3)=w1 at hP0 b10 he0 hs0⊢
 generalize wo.heap.size=base at hP0 hs0 hwb⊢
 clear wo
 go_loopw [6,7,8,22,23] (fun vO n i _ _ wr=>∃(k m:Nat),k≤N∧i=.int .i64 k∧n=.int .i64 m∧m≤k∧Hid ((ddTo (sig A c) k).length=m)∧Pool base wr [⟨3,1,vO,k,(setsL k (refine1 A c)).map (Value.int .i64)⟩]∧Blk wr w.heap.size #[.int .i64 A.alphabet,.slice an N cn,.slice aa A.accept.length ca] 31∧Ext w wr∧base≤wr.heap.size) (fun _ _ i _ _ _=>N-(intOf i).toNat)
 case atStart=>exact ⟨0,0,by omega,rfl,rfl,by omega,Lib.hid rfl,hP0,b10,he0,hs0⟩
 case round=>
  clear hP0 b10 he0 hs0
  obtain ⟨k,m,hk,rfl,rfl,hmk,HM,hP,b1,he,hsz⟩:=hrel
  obtain ⟨aO,cO,rfl⟩:=own_any' (Pool.hd hP)
  by_cases hlt:k<N
  case neg=>
   obtain rfl:k=N:=by omega
   have HFIN:Hid (((m:Nat):Int)=((sigD A c).length:Int)∧Ext w wr∧IntsV wr (.slice aO k cO) (setsL A.next.length (refine1 A c))):=Lib.hid ⟨by rw [←HM.out,←HNL.out];rfl,he,by rw [HNL.out];exact own_ints (Pool.hd hP) (setsL_len _ _)⟩
   clear hP b1 he
   go_wp2_with fail
   go_ret2
   obtain ⟨f1,f2,f3⟩:=HFIN.out
   refine ⟨.slice aO k cO,?_,f2,f3⟩
   rw [←f1]
   rfl
  have hkN:k<A.next.length:=by rw [HNL.out];exact hlt
  have HKN:=Lib.hid hkN
  have hki:(k:Int)<(N:Int):=by omega
  clear hkN
  go_wp2_with fail
  go_loopw [9,10,22,23] (fun x j _ _ wr=>∃(q:Nat) (z:Int),j=.int .i64 q∧q≤k∧x=.int .i64 z∧Hid ((z=-1∧∀p,p<q→sig A c p≠sig A c k)∨(0≤z∧z=(refine1 A c k:Int)∧(ddTo (sig A c) (k+1)).length=(ddTo (sig A c) k).length))∧Pool base wr [⟨3,1,.slice aO k cO,k,(setsL k (refine1 A c)).map (Value.int .i64)⟩]∧Blk wr w.heap.size #[.int .i64 A.alphabet,.slice an N cn,.slice aa A.accept.length ca] 31∧Ext w wr∧base≤wr.heap.size) (fun _ j _ _ _=>k-(intOf j).toNat)
  case atStart=>exact ⟨0,-1,rfl,by omega,rfl,Lib.hid (.inl ⟨rfl,fun p hp=>by omega⟩),hP,b1,he,hsz⟩
  case round=>
   clear hP b1 he hsz
   obtain ⟨q,z,rfl,hq,rfl,HZ,hP,b1,he,hsz⟩:=hrel
   have hk32:k≤4294967296:=by omega
   by_cases hz:0≤z
   ·have HZ2:Hid (z=(refine1 A c k:Int)∧(ddTo (sig A c) (k+1)).length=(ddTo (sig A c) k).length):=Lib.hid (by
     rcases HZ.out with ⟨e,-⟩ | ⟨-,h1,h2⟩
     ·omega
     ·exact ⟨h1,h2⟩)
    have hz':¬z<0:=by omega
    clear HZ
    by_cases hqk:q<k
    ·have hqk':(q:Int)<(k:Int):=by omega
     go_wp2_with (at_builtin;refine appP (news:=[Value.int .i64 z]) rfl rfl Tryz.underlying96 infoInt rfl (by decide) hP rfl rfl rfl (by simp [Value.oneCell']) hk32 (by decide) hsz ?_;intro v1 w3 hP1 hg1 hb1)
     refine ⟨⟨k+1,m,by omega,by go_num,rfl,by omega,Lib.hid (by rw [HZ2.out.2,HM.out]),?_,b1.grown (Pool.hd hP) hg1 (by decide),Below.trans he (hb1.mono (by omega)),Nat.le_trans hsz hg1.size⟩,by simp [intOf];omega⟩
     rw [setsL_snoc,List.map_append,←HZ2.out.1];exact hP1
    ·have hqk':¬(q:Int)<(k:Int):=by omega
     go_wp2_with (at_builtin;refine appP (news:=[Value.int .i64 z]) rfl rfl Tryz.underlying96 infoInt rfl (by decide) hP rfl rfl rfl (by simp [Value.oneCell']) hk32 (by decide) hsz ?_;intro v1 w3 hP1 hg1 hb1)
     refine ⟨⟨k+1,m,by omega,by go_num,rfl,by omega,Lib.hid (by rw [HZ2.out.2,HM.out]),?_,b1.grown (Pool.hd hP) hg1 (by decide),Below.trans he (hb1.mono (by omega)),Nat.le_trans hsz hg1.size⟩,by simp [intOf];omega⟩
     rw [setsL_snoc,List.map_append,←HZ2.out.1];exact hP1
   ·have HZ2:Hid (∀p,p<q→sig A c p≠sig A c k):=Lib.hid (by
     rcases HZ.out with ⟨-,h⟩ | ⟨h,-⟩
     ·exact h
     ·omega)
    obtain rfl:z=-1:=by
     rcases HZ.out with ⟨h,-⟩ | ⟨h,-⟩
     ·exact h
     ·omega
    clear HZ hz
    by_cases hqk:q<k
    ·have hqk':(q:Int)<(k:Int):=by omega
     obtain ⟨gO,cO',e6,gs⟩:=own_at (Pool.hd hP) (j:=q) (u:=.int .i64 (refine1 A c q:Int)) (by rw [List.getElem?_map,setsL_at _ hqk];rfl)
     cases e6
     obtain ⟨b,hb⟩:∃b,decide (sig A c k=sig A c q)=b:=⟨_,rfl⟩
     have HS:=Lib.hid (HSAME.out wr he k q (by omega) (by omega) b hb)
     have HB:=Lib.hid hb
     obtain ⟨rq,hrq⟩:∃rq,refine1 A c q=rq:=⟨_,rfl⟩
     rw [hrq] at gs
     have HRQ:=Lib.hid hrq
     have c0:=b1.cell 0 rfl;have c1:=b1.cell 1 rfl;have c2:=b1.cell 2 rfl
     clear hb hrq
     go_wp2_with fail
     refine HS.out.mono ?_
     rintro e w2 ⟨rfl,he2⟩
     have gs2:=he2.cell gs
     replace hP:=hP.ext he2
     replace b1:=b1.ext he2
     replace he:=he.trans he2
     replace hsz:=Nat.le_trans hsz he2.size
     clear he2 c0 c1 c2 gs HS
     cases b with
     | true=>
      have HNX:Hid (((rq:Nat):Int)=(refine1 A c k:Int)∧(ddTo (sig A c) (k+1)).length=(ddTo (sig A c) k).length):=Lib.hid (by
       have hs:sig A c q=sig A c k:=(of_decide_eq_true HB.out).symm
       obtain ⟨h1,h2⟩:=ref_old HKN.out hqk hs
       exact ⟨by rw [←HRQ.out,h1],h2⟩)
      go_wp2_with fail
      exact ⟨⟨q+1,(rq:Int),by go_num,by omega,rfl,Lib.hid (.inr ⟨by omega,HNX.out⟩),hP,b1,he,hsz⟩,by simp [intOf];omega⟩
     | false=>
      have HNX:Hid (∀p,p<q+1→sig A c p≠sig A c k):=Lib.hid (fun p hp e=>by
       by_cases hpq:p<q
       ·exact HZ2.out p hpq e
       ·obtain rfl:p=q:=by omega
        exact of_decide_eq_false HB.out e.symm)
      go_wp2_with fail
      exact ⟨⟨q+1,-1,by go_num,by omega,rfl,Lib.hid (.inl ⟨rfl,HNX.out⟩),hP,b1,he,hsz⟩,by simp [intOf];omega⟩
    ·obtain rfl:q=k:=by omega
     have HNW:Hid (refine1 A c q=m∧(ddTo (sig A c) (q+1)).length=m+1):=Lib.hid (by
      have:=ref_new HKN.out HZ2.out
      rw [HM.out] at this;exact this)
     go_wp2_with (at_builtin;refine appP (news:=[Value.int .i64 (m:Int)]) rfl rfl Tryz.underlying96 infoInt rfl (by decide) hP rfl rfl rfl (by simp [Value.oneCell']) hk32 (by decide) hsz ?_;intro v1 w3 hP1 hg1 hb1)
     refine ⟨⟨q+1,m+1,by omega,by go_num,by go_num,by omega,Lib.hid HNW.out.2,?_,b1.grown (Pool.hd hP) hg1 (by decide),Below.trans he (hb1.mono (by omega)),Nat.le_trans hsz hg1.size⟩,by simp [intOf];omega⟩
     rw [setsL_snoc,List.map_append,HNW.out.1];exact hP1
def ClassEnd (A:Auto) (w:World) (e:Ending) (w':World):Prop:=
 ∃v,e=.returned (.tuple #[v,.int .i64 ((clsD A).length:Int)])∧Ext w w'∧IntsV w' v (setsL A.next.length (clsOf A))
theorem stage0 (A:Auto) (q:Nat):stage A 0 q=if accepts A q then 1 else 0:=rfl
theorem l5Classes_s (v:Value) (A:Auto) (w:World) (hv:AutoV w v A) (hA:AutoFit A) (hM:A.next.length≤100) :
  Calls Tryz.prog 212 #[v] w (ClassEnd A w):=by
 obtain ⟨vn,va,rfl,hN1,hA1⟩:=hv
 obtain ⟨an,cn,rfl,-,-⟩:=hN1.open
 obtain ⟨aa,ca,rfl,-,hat⟩:=hA1.open
 have HV:=Lib.hid (show ∀w',Ext w w'→AutoV w' (.agg #[.int .i64 A.alphabet,.slice an A.next.length cn,.slice aa A.accept.length ca]) A from fun w' h=>⟨_,_,rfl,hN1.mono h,hA1.mono h⟩)
 have HAT:=Lib.hid hat
 have HX:=Lib.hid hA
 have HACC:=Lib.hid hA.acc
 have HMN:=Lib.hid hM
 obtain ⟨N,hN⟩:∃N,A.accept.length=N:=⟨_,rfl⟩
 have HNL:Hid (A.next.length=N):=Lib.hid (by rw [←hN,HACC.out])
 have hMN:N≤100:=by rw [←HNL.out];exact hM
 have HREF:=Lib.hid (fun w' vc (h:Ext w w') c (hc:IntsV w' vc (setsL A.next.length c))=>l5Refine_s _ vc A c w' (HV.out w' h) HX.out hM hc)
 obtain ⟨wo,hwo⟩:∃wo,wo=w.alloc (.cells #[.int .i64 A.alphabet,.slice an A.next.length cn,.slice aa A.accept.length ca] 31):=⟨_,rfl⟩
 have he:Ext w wo:=by rw [hwo];exact Ext.alloc _ _
 have b1:Blk wo w.heap.size #[.int .i64 A.alphabet,.slice an A.next.length cn,.slice aa A.accept.length ca] 31:=by rw [hwo];exact Blk.new _ _ _
 have hP0:=(Pool.nil wo.heap.size wo).addLit 3 1 (Nat.le_refl _) (Nat.le_refl _) (Ext.alloc wo (.cells #[] 3)) (Blk.new _ _ _)
 rw [hN] at hwo b1 HREF⊢
 clear hN1 hA1 hat hA hM hN HV
 go_enter Tryz.func212,Tryz.ntmps212
 go_upto_region 1 with fail
 rw [←hwo]
 clear hwo
 go_wp2_with fail
 have b10:=b1.ext (Ext.alloc wo (.cells #[] 3))
 have he0:=he.trans (Ext.alloc wo (.cells #[] 3))
 have hs0:wo.heap.size≤(wo.alloc (.cells #[] 3)).heap.size:=(Ext.alloc wo (.cells #[] 3)).size
 have hwb:w.heap.size≤wo.heap.size:=he.size
 clear b1 he
 generalize wo.alloc (.cells #[] 3)=w1 at hP0 b10 he0 hs0⊢
 generalize wo.heap.size=base at hP0 hs0 hwb⊢
 clear wo
 go_loopw [4,5] (fun vO i wr=>∃k:Nat,k≤N∧i=.int .i64 k∧Pool base wr [⟨3,1,vO,k,(setsL k (stage A 0)).map (Value.int .i64)⟩]∧Blk wr w.heap.size #[.int .i64 A.alphabet,.slice an A.next.length cn,.slice aa N ca] 31∧Ext w wr∧base≤wr.heap.size) (fun _ i _=>N-(intOf i).toNat)
 case atStart=>exact ⟨0,by omega,rfl,hP0,b10,he0,hs0⟩
 case round=>
  clear hP0 b10 he0 hs0
  obtain ⟨k,hk,rfl,hP,b1,he,hsz⟩:=hrel
  obtain ⟨aO,cO,rfl⟩:=own_any' (Pool.hd hP)
  have d2:=b1.cell 2 rfl
  by_cases hlt:k<N
  ·have hki:(k:Int)<(N:Int):=by omega
   have hkA:k<A.next.length:=by rw [HNL.out];exact hlt
   obtain ⟨b9,o9,rfl,-,hc9⟩:=HAT.out k _ (HX.out.accepts_at hkA)
   have g9:wr.cell? ⟨b9,o9+k,none⟩=some (.bool (accepts A k)):=by have:=hc9 k _ (HX.out.accepts_at hkA);rw [Nat.mul_one] at this;exact he.cell this
   obtain ⟨z,hz⟩:∃z,accepts A k=z:=⟨_,rfl⟩
   rw [hz] at g9
   have HST:Hid (stage A 0 k=if z then 1 else 0):=Lib.hid (by rw [stage0,hz])
   have hk32:k≤4294967296:=by omega
   clear hc9 hz hkA
   cases z with
   | true=>
    go_wp2_with (at_builtin;refine appP (news:=[Value.int .i64 (1:Int)]) rfl rfl Tryz.underlying96 infoInt rfl (by decide) hP rfl rfl rfl (by simp [Value.oneCell']) hk32 (by decide) hsz ?_;intro v1 w3 hP1 hg1 hb1)
    refine ⟨⟨k+1,by omega,by go_num,?_,b1.grown (Pool.hd hP) hg1 (by decide),Below.trans he (hb1.mono (by omega)),Nat.le_trans hsz hg1.size⟩,by simp [intOf];omega⟩
    rw [setsL_snoc,List.map_append,HST.out];exact hP1
   | false=>
    go_wp2_with (at_builtin;refine appP (news:=[Value.int .i64 (0:Int)]) rfl rfl Tryz.underlying96 infoInt rfl (by decide) hP rfl rfl rfl (by simp [Value.oneCell']) hk32 (by decide) hsz ?_;intro v1 w3 hP1 hg1 hb1)
    refine ⟨⟨k+1,by omega,by go_num,?_,b1.grown (Pool.hd hP) hg1 (by decide),Below.trans he (hb1.mono (by omega)),Nat.le_trans hsz hg1.size⟩,by simp [intOf];omega⟩
    rw [setsL_snoc,List.map_append,HST.out];exact hP1
  ·obtain rfl:k=N:=by omega
   have hst:IntsV wr (.slice aO k cO) (setsL A.next.length (stage A 0)):=by rw [HNL.out];exact own_ints (Pool.hd hP) (setsL_len _ _)
   have HR:=Lib.hid (HREF.out wr _ he _ hst)
   have c0:=b1.cell 0 rfl;have c1:=b1.cell 1 rfl
   clear hP hst
   go_wp2_with fail
   refine HR.out.mono ?_
   rintro e w2 ⟨v2,rfl,he2,h2⟩
   replace b1:=b1.ext he2
   replace he:=he.trans he2
   have HI1:=Lib.hid h2
   clear c0 c1 d2 he2 HR h2
   go_wp2_with fail
   go_loopw [4,7,8] (fun vC n m wr=>∃(i nn:Nat),n=.int .i64 nn∧m=.int .i64 ((cnt A i:Nat):Int)∧nn≤k∧Hid ((i=0∧nn=0)∨nn=many A i)∧Hid (IntsV wr vC (setsL A.next.length (stage A (i+1))))∧Blk wr w.heap.size #[.int .i64 A.alphabet,.slice an A.next.length cn,.slice aa k ca] 31∧Ext w wr) (fun _ n _ _=>k-(intOf n).toNat)
   case atStart=>exact ⟨0,0,rfl,rfl,by omega,Lib.hid (.inl ⟨rfl,rfl⟩),HI1,b1,he⟩
   case round=>
    clear HI1 b1 he
    obtain ⟨i,nn,rfl,rfl,hnn,HNN,HI,b1,he⟩:=hrel
    obtain ⟨cm,hcm⟩:∃cm,cnt A i=cm:=⟨_,rfl⟩
    have HCM:=Lib.hid hcm
    have hcN:cm≤k:=by rw [←hcm,←HNL.out];exact cnt_le i
    rw [hcm]
    clear hcm
    by_cases hgt:nn<cm
    ·have hgt':(nn:Int)<(cm:Int):=by omega
     have HR:=Lib.hid (HREF.out wr _ he _ HI.out)
     have HN2:Hid (cm=many A (i+1)):=Lib.hid (by rw [←HCM.out,cnt_many])
     have c0:=b1.cell 0 rfl;have c1:=b1.cell 1 rfl;have c2:=b1.cell 2 rfl
     clear HI HNN
     go_wp2_with fail
     refine HR.out.mono ?_
     rintro e w2 ⟨v2,rfl,he2,h2⟩
     replace b1:=b1.ext he2
     replace he:=he.trans he2
     have HI1:=Lib.hid h2
     clear c0 c1 c2 he2 HR h2
     go_wp2_with fail
     exact ⟨⟨i+1,cm,rfl,rfl,hcN,Lib.hid (.inr HN2.out),HI1,b1,he⟩,by simp [intOf];omega⟩
    ·have hgt':¬(nn:Int)<(cm:Int):=by omega
     have hmany:many A (i+1)=many A i∧nn=many A i:=by
      have h1:=many_pos HX.out (i+1)
      have h2:cm=many A (i+1):=by rw [←HCM.out,cnt_many]
      have h3:=many_mono (A:=A) i
      rcases HNN.out with ⟨-,h0⟩ | h0
      ·omega
      ·omega
     have HFIN:Hid (((nn:Nat):Int)=((clsD A).length:Int)∧Ext w wr∧IntsV wr u4 (setsL A.next.length (clsOf A))):=Lib.hid ⟨by rw [hmany.2,←hmany.1,many_cls HX.out hmany.1],he,by rw [←setsL_eq (f:=stage A (i+1)) fun p hp=>stage_cls HX.out hmany.1 hp];exact HI.out⟩
     clear hmany HI
     go_wp2_with fail
     go_ret2
     obtain ⟨f1,f2,f3⟩:=HFIN.out
     refine ⟨u4,?_,f2,f3⟩
     rw [←f1]
     rfl
def MinEndS (A:Auto) (w:World) (e:Ending) (w':World):Prop:=∃v' B,e=.returned v'∧Ext w w'∧IsMin (res A 0) A.alphabet B∧AutoOwn w.heap.size w' v' B
theorem first_of {A:Auto} {k:Nat} (hk:k<(clsD A).length):(k:Int)∈setsL A.next.length (clsOf A)∧(setsL A.next.length (clsOf A)).idxOf (k:Int)<A.next.length∧(clsD A)[k]?=some (res A ((setsL A.next.length (clsOf A)).idxOf (k:Int))):=by
 obtain ⟨q,hq,e⟩:=clsD_inv (List.getElem_mem hk)
 have hc:clsOf A q=k:=by
  unfold clsOf
  rw [e]
  have h1:=idx_at (List.getElem_mem hk)
  obtain ⟨i1,i2⟩:=List.getElem?_eq_some_iff.1 h1
  exact (List.getElem_inj (xs:=clsD A) (dd_nodup _)).1 i2
 have hm:(k:Int)∈setsL A.next.length (clsOf A):=by
  have:=List.mem_of_getElem? (setsL_at (clsOf A) hq)
  rwa [hc] at this
 have hlt:=List.idxOf_lt_length_of_mem hm
 rw [setsL_len] at hlt
 refine ⟨hm,hlt,?_⟩
 obtain ⟨p,hp⟩:∃p,(setsL A.next.length (clsOf A)).idxOf (k:Int)=p:=⟨_,rfl⟩
 have hat:=idx_at hm
 rw [hp] at hat hlt⊢
 rw [setsL_at _ hlt] at hat
 have hpk:clsOf A p=k:=by have:=Option.some.inj hat;omega
 have h2:=idx_at (clsD_mem hlt)
 rw [show (clsD A).idxOf (res A p)=k from hpk] at h2
 exact h2
theorem take_lng {l:List Lng} {k:Nat} {g:Lng} (f:Lng→List Int) (h:l[k]?=some g):(l.take (k+1)).map f=(l.take k).map f++[f g]:=by
 rw [List.take_add_one,h,List.map_append];rfl
theorem take_lacc {l:List Lng} {k:Nat} {g:Lng} (h:l[k]?=some g):((l.take (k+1)).map fun g=>g []).map Value.bool=((l.take k).map fun g=>g []).map Value.bool++[Value.bool (g [])]:=by
 rw [List.take_add_one,h,List.map_append,List.map_append];rfl
theorem quo_next_s (A:Auto):(quo A).next=(clsD A).map (rowN nxR (letters A.alphabet) (clsD A)):=rfl
theorem quo_acc_s (A:Auto):(quo A).accept=(clsD A).map fun g=>g []:=rfl
theorem l5Minimal_s (v:Value) (A:Auto) (w:World) (hv:AutoV w v A) (hA:AutoFit A) (hM:A.next.length≤100) :
  Calls Tryz.prog 123 #[v] w (MinEndS A w):=by
 obtain ⟨vn,va,rfl,hN1,hA1⟩:=hv
 obtain ⟨an,cn,rfl,-,-⟩:=hN1.open
 obtain ⟨aa,ca,rfl,-,-⟩:=hA1.open
 have HV:=Lib.hid (show ∀w',Ext w w'→AutoV w' (.agg #[.int .i64 A.alphabet,.slice an A.next.length cn,.slice aa A.accept.length ca]) A from fun w' h=>⟨_,_,rfl,hN1.mono h,hA1.mono h⟩)
 have HX:=Lib.hid hA
 clear hN1 hA1 hA
 obtain ⟨wo,hwo⟩:∃wo,wo=(w.alloc (.cells #[.int .i64 A.alphabet,.slice an A.next.length cn,.slice aa A.accept.length ca] 31)).alloc (.cells #[.int .i64 0,.slice none 0 0,.slice none 0 0] 31):=⟨_,rfl⟩
 have he:Ext w wo:=by rw [hwo];exact (Ext.alloc _ _).trans (Ext.alloc _ _)
 have b1:Blk wo w.heap.size #[.int .i64 A.alphabet,.slice an A.next.length cn,.slice aa A.accept.length ca] 31:=by rw [hwo];exact Ext.blk (Ext.alloc _ _)
 have b2:Blk wo (w.heap.size+1) #[.int .i64 0,.slice none 0 0,.slice none 0 0] 31:=by rw [hwo];exact Ext.blk1 (Ext.refl _)
 go_enter Tryz.func123,Tryz.ntmps123
 go_upto_region 1 with fail
 rw [←hwo]
 clear hwo
 have c0:=b1.cell 0 rfl;have c1:=b1.cell 1 rfl;have c2:=b1.cell 2 rfl
 go_wp2_with fail
 refine (l5Trim_s _ A _ (HV.out _ he) HX.out hM).mono ?_
 rintro e w1 ⟨v1,X,rfl,he1,hT,hXl,vN,vA,rfl,hO⟩
 obtain ⟨aN,cN,rfl⟩:=hO.1.shape
 obtain ⟨aA,cA,rfl⟩:=hO.2.shape
 have hXV:AutoV w1 (.agg #[.int .i64 X.alphabet,.slice aN X.next.length cN,.slice aA X.accept.length cA]) X:=AutoOwn.auto ⟨_,_,rfl,hO⟩
 have hXF:AutoFit X:=by
  obtain ⟨nodes,h1,rfl⟩:=hT
  exact autoN_fit HX.out.a0 HX.out.a63 h1 (by simp [autoN] at hXl;omega)
 have hXa:X.alphabet=A.alphabet:=by obtain ⟨nodes,h1,rfl⟩:=hT;rfl
 have HMIN:=Lib.hid (min_of_trim HX.out hT)
 have HXA:=Lib.hid hXa
 have HF:=Lib.hid hXF
 have hX100:X.next.length≤100:=by omega
 have hwl:w.heap.size+1<wo.heap.size:=b2.lt
 replace he:=he.trans he1
 replace b1:=b1.ext he1
 replace b2:=b2.ext he1
 have l2w:w.heap.size+1<w1.heap.size:=b2.lt
 clear c0 c1 c2 he1 hT hO hXF hXl hwl hXa
 clear wo
 go_upto_region 2 with fail
 obtain ⟨w2,hw2⟩:∃w2,w2=w1.alloc (.cells #[.int .i64 X.alphabet,.slice aN X.next.length cN,.slice aA X.accept.length cA] 31):=⟨_,rfl⟩
 have y2:Ext w1 w2:=by rw [hw2];exact Ext.alloc _ _
 have b3:Blk w2 w1.heap.size #[.int .i64 X.alphabet,.slice aN X.next.length cN,.slice aA X.accept.length cA] 31:=by rw [hw2];exact Blk.new _ _ _
 rw [←hw2]
 clear hw2
 obtain ⟨vx1,vx2,ex,hx1,hx2⟩:=hXV
 cases ex
 obtain ⟨xa,xc,ex,-,hxn⟩:=hx1.open
 cases ex
 obtain ⟨xa2,xc2,ex,-,hxt⟩:=hx2.open
 cases ex
 have HXV:=Lib.hid (show ∀w',Ext w1 w'→AutoV w' (.agg #[.int .i64 X.alphabet,.slice aN X.next.length cN,.slice aA X.accept.length cA]) X from fun w' h=>⟨_,_,rfl,hx1.mono h,hx2.mono h⟩)
 have HXN:=Lib.hid hxn
 have HXT:=Lib.hid hxt
 have HXACC:=Lib.hid HF.out.acc
 replace he:=he.trans y2
 replace b1:=b1.ext y2
 replace b2:=b2.ext y2
 have hy:=y2
 have l3:w1.heap.size<w2.heap.size:=b3.lt
 obtain ⟨p3,hp3⟩:∃p3,w1.heap.size=p3:=⟨_,rfl⟩
 rw [hp3] at b3 l3 l2w⊢
 have HP3:=Lib.hid hp3
 have c0:=b3.cell 0 rfl;have c1:=b3.cell 1 rfl;have c2:=b3.cell 2 rfl
 clear y2 hx1 hx2 hxn hxt hp3
 go_wp2_with fail
 refine (l5Classes_s _ X _ (HXV.out _ hy) HF.out hX100).mono ?_
 rintro e w3 ⟨vc,rfl,he3,hcl⟩
 obtain ⟨ac,cc,rfl,hcc⟩:=sets_cell hcl
 have HCL:=Lib.hid (show ∀w',Ext w3 w'→IntsV w' (.slice ac X.next.length cc) (setsL X.next.length (clsOf X)) from fun w' h=>hcl.mono h)
 have HCC:=Lib.hid (show ∀p,p<X.next.length→∃b off,ac=some ⟨b,off,none⟩∧w3.cell? ⟨b,off+p,none⟩=some (.int .i64 (clsOf X p:Int)) from hcc)
 obtain ⟨n,hn⟩:∃n,(clsD X).length=n:=⟨_,rfl⟩
 have HN:=Lib.hid hn
 have hnX:n≤X.next.length:=by rw [←hn];exact clsD_len X
 replace he:=he.trans he3
 replace hy:=hy.trans he3
 replace b1:=b1.ext he3
 replace b2:=b2.ext he3
 replace b3:=b3.ext he3
 have l4:p3<w3.heap.size:=b3.lt
 clear c0 c1 c2 hcl hcc he3 l3
 rw [hn]
 clear hn
 clear w2
 have c0:=b1.cell 0 rfl;have c1:=b1.cell 1 rfl;have c2:=b1.cell 2 rfl
 go_upto_region 4 with fail
 obtain ⟨w4,hw4⟩:∃w4,w4=w3.alloc (.cells #[.int .i64 A.alphabet,.slice none 0 0,.slice none 0 0] 31):=⟨_,rfl⟩
 have y4:Ext w3 w4:=by rw [hw4];exact Ext.alloc _ _
 have b7:Blk w4 w3.heap.size #[.int .i64 A.alphabet,.slice none 0 0,.slice none 0 0] 31:=by rw [hw4];exact Blk.new _ _ _
 rw [←hw4]
 clear hw4
 replace he:=he.trans y4
 replace hy:=hy.trans y4
 replace b2:=b2.ext y4
 replace b3:=b3.ext y4
 have hz:=y4
 have hP0:Pool w3.heap.size w4 [⟨96,1,.slice none 0 0,0,[]⟩,⟨4,1,.slice none 0 0,0,[]⟩]:=((Pool.nil w3.heap.size w4).addNil 4 1).addNil 96 1
 obtain ⟨G,hG⟩:∃G,w3.heap.size=G:=⟨_,rfl⟩
 rw [hG] at b7 hP0 l4⊢
 clear c0 c1 c2 b1 y4
 go_wp2_with fail
 have hR0:Hid (([]:List Value).length=0):=Lib.hid rfl
 go_loopw [7] (fun i wr=>∃(k:Nat) (va vN:Value) (vs:List Value) (rows:List (List Int)),k≤n∧i=.int .i64 k∧Hid (vs.length=k)∧Hid (rows=((clsD X).take k).map (rowN nxR (letters X.alphabet) (clsD X)))∧Blk wr G #[.int .i64 A.alphabet,vN,va] 31∧Pool G wr (⟨96,1,vN,k,vs⟩ :: ⟨4,1,va,k,(((clsD X).take k).map fun g=>g []).map Value.bool⟩ :: slRows 3 vs rows)∧Blk wr (w.heap.size+1) #[.int .i64 0,.slice none 0 0,.slice none 0 0] 31∧Blk wr p3 #[.int .i64 X.alphabet,.slice aN X.next.length cN,.slice aA X.accept.length cA] 31∧Ext w wr∧Ext w1 wr∧Ext w3 wr) (fun i _=>n-(intOf i).toNat)
 case atStart=>exact ⟨0,_,_,[],[],by omega,rfl,hR0,Lib.hid rfl,b7,hP0,b2,b3,he,hy,hz⟩
 case round=>
  clear b7 hP0 b2 b3 he hy hz hR0
  obtain ⟨k,va,vN,vs,rows,hk,rfl,HVL,HRW,b7,hP,b2,b3,he,hy,hz⟩:=hrel
  have hsz:G≤wr.heap.size:=by rw [←hG];exact hz.size
  obtain ⟨aN2,cN2,rfl⟩:=own_any' (Pool.hd hP)
  obtain ⟨aA2,cA2,rfl⟩:=own_any' (Pool.hd2 hP)
  by_cases hlt:k<n
  case neg=>
   obtain rfl:k=n:=by omega
   have htk:(clsD X).take k=clsD X:=by rw [←HN.out,List.take_length]
   have hEND:AutoOwn G wr (.agg #[.int .i64 A.alphabet,.slice aN2 k cN2,.slice aA2 k cA2]) (quo X):=by
    rw [←HXA.out]
    refine Pool.auto (x:=quo X) (vs:=vs) (vn:=.slice aN2 k cN2) (va:=.slice aA2 k cA2) (w:=wr) (base:=G) ?_ (by rw [HVL.out,quo_next_s,List.length_map,HN.out])
    have hRW2:rows=(clsD X).map (rowN nxR (letters X.alphabet) (clsD X)):=by rw [HRW.out,htk]
    rw [quo_next_s,quo_acc_s,List.length_map,List.length_map,HN.out,←hRW2]
    rw [htk] at hP
    exact hP
   have HEND:=Lib.hid hEND
   have gc0:=b7.cell 0 rfl;have gc1:=b7.cell 1 rfl;have gc2:=b7.cell 2 rfl
   have rc0:=b2.cell 0 rfl;have rf0:=b2.fr 0;have rc1:=b2.cell 1 rfl;have rf1:=b2.fr 1;have rc2:=b2.cell 2 rfl;have rf2:=b2.fr 2
   clear hEND hP htk
   go_wp2_with fail
   refine bodyPost_ret (v:=.agg #[.int .i64 A.alphabet,.slice aN2 k cN2,.slice aA2 k cA2]) (by simp [results,Tryz.results123,go_sem,rc0,rc1,rc2,rf0,rf1,rf2]) rfl ?_
   refine ⟨_,_,rfl,(((he.setCell (p:=⟨(w.heap.size+1),0,none⟩) (by simp only [];omega) _).setCell (p:=⟨(w.heap.size+1),1,none⟩) (by simp only [];omega) _).setCell (p:=⟨(w.heap.size+1),2,none⟩) (by simp only [];omega) _),HMIN.out,?_⟩
   exact (auto_store (auto_store (auto_store HEND.out b2 (by decide) (by decide) (by decide) 0 _) (b2.set 0 _) (by decide) (by decide) (by decide) 1 _) ((b2.set 0 _).set 1 _) (by decide) (by decide) (by decide) 2 _).low (by omega)
  obtain ⟨hm,hq,hat⟩:=first_of (A:=X) (k:=k) (by rw [HN.out];exact hlt)
  have hL5:=fun w' (h:Ext w3 w')=>l5Index_c _ _ (k:Int) w' (HCL.out w' h) (by rw [setsL_len];omega) hm
  obtain ⟨q,hqe⟩:∃q,(setsL X.next.length (clsOf X)).idxOf (k:Int)=q:=⟨_,rfl⟩
  rw [hqe] at hq hat hL5
  have HL5:=Lib.hid hL5
  have HAT:=Lib.hid hat
  have hki:(k:Int)<(n:Int):=by omega
  clear hm hL5 hqe hat
  go_wp2_with fail
  refine (HL5.out _ hz).mono ?_
  rintro e w' ⟨rfl,rfl⟩
  obtain ⟨row,hr,hrl,-⟩:=HF.out.row hq
  obtain ⟨b,off,e1,-,hc3⟩:=HXN.out q row hr
  subst e1
  obtain ⟨vr,g1,hvr⟩:=hc3 q row hr
  rw [Nat.mul_one] at g1
  obtain ⟨ar,cr,rfl,-,hrr⟩:=hvr.open
  have HG1:=Lib.hid g1
  have HRR:=Lib.hid hrr
  have HR1:=Lib.hid hr
  have HRL:=Lib.hid (show row.length=(letters X.alphabet).length from hrl)
  have hrow6:row.length≤6:=by rw [HRL.out];exact lettersTo_len X.alphabet 6
  have hqX:(q:Int)<(X.next.length:Int):=by omega
  have hPW:=hP.addLit 3 1 (Nat.le_refl _) hsz (Ext.alloc wr (.cells #[] 3)) (Blk.new _ _ _)
  have b71:=b7.ext (Ext.alloc wr (.cells #[] 3))
  have b21:=b2.ext (Ext.alloc wr (.cells #[] 3))
  have b31:=b3.ext (Ext.alloc wr (.cells #[] 3))
  have he1:=he.trans (Ext.alloc wr (.cells #[] 3))
  have hy1:=hy.trans (Ext.alloc wr (.cells #[] 3))
  have hz1:=hz.trans (Ext.alloc wr (.cells #[] 3))
  clear hc3 hr hvr hrr hrl g1 HL5
  go_wp2_with fail
  clear b7 b2 b3 he hy hz hP hsz
  generalize wr.alloc (.cells #[] 3)=wl at hPW b71 b21 b31 he1 hy1 hz1⊢
  generalize wr.heap.size=gW at hPW⊢
  clear wr
  go_loopw [9,10] (fun vW j wr=>∃p:Nat,p≤row.length∧j=.int .i64 p∧Blk wr G #[.int .i64 A.alphabet,.slice aN2 k cN2,.slice aA2 k cA2] 31∧Pool G wr (⟨3,1,vW,p,(((letters X.alphabet).take p).map fun l=>(clsOf X (step X q l):Int)).map (Value.int .i64)⟩ :: ⟨96,1,.slice aN2 k cN2,k,vs⟩ :: ⟨4,1,.slice aA2 k cA2,k,(((clsD X).take k).map fun g=>g []).map Value.bool⟩ :: slRows 3 vs rows)∧Blk wr (w.heap.size+1) #[.int .i64 0,.slice none 0 0,.slice none 0 0] 31∧Blk wr p3 #[.int .i64 X.alphabet,.slice (some ⟨b,off,none⟩) X.next.length cN,.slice aA X.accept.length cA] 31∧Ext w wr∧Ext w1 wr∧Ext w3 wr) (fun _ j _=>row.length-(intOf j).toNat)
  case atStart=>exact ⟨0,by omega,rfl,b71,hPW,b21,b31,he1,hy1,hz1⟩
  case round=>
   clear hPW b71 b21 b31 he1 hy1 hz1
   obtain ⟨p,hp,rfl,b7,hP,b2,b3,he,hy,hz⟩:=hrel
   have hsz:G≤wr.heap.size:=by rw [←hG];exact hz.size
   obtain ⟨aW,cW,rfl⟩:=own_any' (Pool.hd hP)
   have g1:=hy.cell HG1.out
   have d1:=b3.cell 1 rfl
   by_cases hpl:p<row.length
   ·obtain ⟨l,hl⟩:∃l,(letters X.alphabet)[p]?=some l:=⟨_,List.getElem?_eq_getElem (by rw [←HRL.out];exact hpl)⟩
    obtain ⟨hz2,hzn⟩:=row_entry HF.out hq HR1.out hl
    obtain ⟨y,hyy⟩:∃y,step X q l=y:=⟨_,rfl⟩
    rw [hyy] at hz2 hzn
    obtain ⟨b5,off5,rfl,-,hc2⟩:=HRR.out p _ hz2
    have g2:=hy.cell (hc2 p _ hz2)
    rw [Nat.mul_one] at g2
    obtain ⟨bc,oc,rfl,gc0⟩:=HCC.out y hzn
    have gc:=hz.cell gc0
    obtain ⟨cy,hcy⟩:∃cy,clsOf X y=cy:=⟨_,rfl⟩
    rw [hcy] at gc
    have HCY:Hid (clsOf X (step X q l)=cy):=Lib.hid (by rw [hyy];exact hcy)
    have HL:=Lib.hid hl
    have hpi:(p:Int)<(row.length:Int):=by omega
    have hyX:(y:Int)<(X.next.length:Int):=by omega
    have hp32:p≤4294967296:=by omega
    clear hc2 hz2 hl hyy hcy gc0
    go_wp2_with (at_builtin;refine appP (news:=[Value.int .i64 (cy:Int)]) rfl rfl Tryz.underlying96 infoInt rfl (by decide) hP rfl rfl rfl (by simp [Value.oneCell']) hp32 (by decide) hsz ?_;intro v1 w7 hP1 hg1 hb1)
    have hd:=Pool.hd hP
    refine ⟨⟨p+1,by omega,by go_num,b7.grown hd hg1 (by decide),?_,b2.grown hd hg1 (by decide),b3.grown hd hg1 (by decide),Below.trans he (hb1.mono (by omega)),Below.trans hy (hb1.mono (by rw [HP3.out];omega)),Below.trans hz (hb1.mono (by rw [hG];omega))⟩,by simp [intOf];omega⟩
    rw [List.take_add_one,HL.out,List.map_append,List.map_append,Option.toList_some,List.map_singleton,List.map_singleton,HCY.out]
    exact hP1
   ·obtain rfl:p=row.length:=by omega
    have HROW:Hid (((letters X.alphabet).take row.length).map (fun l=>(clsOf X (step X q l):Int))=rowN nxR (letters X.alphabet) (clsD X) (res X q)):=Lib.hid (by rw [HRL.out,List.take_length];rfl)
    rw [HROW.out] at hP
    have HRLN:Hid ((rowN nxR (letters X.alphabet) (clsD X) (res X q)).length=row.length):=Lib.hid (by rw [HRL.out];simp [rowN])
    have hPN:=hP.perm (List.Perm.swap _ _ _)
    have d71:=b7.cell 1 rfl
    have hk32:k≤4294967296:=by omega
    have hwG:w.heap.size+1<G:=by omega
    have hp3G:p3<G:=by omega
    clear hP
    go_wp2_with (at_builtin;refine appP (news:=[Value.slice aW row.length cW]) rfl rfl Tryz.underlying28 infoInts rfl (by decide) hPN rfl rfl rfl (by simp [Value.oneCell']) hk32 (by decide) hsz ?_;intro v1 w6 hP1 hg1 hb1;obtain ⟨a1,c1,rfl⟩:=own_any' (Pool.hd hP1);have b76:=b7.grown (Pool.hd hPN) hg1 (by decide);have g2:=b76.cell 1 rfl;have f2:=b76.fr 1)
    have hd:=Pool.hd hPN
    have b77:=b76.set 1 (.slice a1 (k+1) c1)
    have b27:=(b2.grown hd hg1 (by decide)).other (p:=⟨G,1,none⟩) (by simp only [];omega) (.slice a1 (k+1) c1)
    have b37:=(b3.grown hd hg1 (by decide)).other (p:=⟨G,1,none⟩) (by simp only [];omega) (.slice a1 (k+1) c1)
    have he7:Ext w (w6.setCell ⟨G,1,none⟩ (.slice a1 (k+1) c1)):=(Below.trans he (hb1.mono (by omega))).setCell (p:=⟨G,1,none⟩) (by simp only [];omega) (.slice a1 (k+1) c1)
    have hy7:Ext w1 (w6.setCell ⟨G,1,none⟩ (.slice a1 (k+1) c1)):=(Below.trans hy (hb1.mono (by rw [HP3.out];omega))).setCell (p:=⟨G,1,none⟩) (by simp only [HP3.out];omega) (.slice a1 (k+1) c1)
    have hz7:Ext w3 (w6.setCell ⟨G,1,none⟩ (.slice a1 (k+1) c1)):=(Below.trans hz (hb1.mono (by rw [hG];omega))).setCell (p:=⟨G,1,none⟩) (by simp only [hG];omega) (.slice a1 (k+1) c1)
    have hs7:G≤(w6.setCell ⟨G,1,none⟩ (.slice a1 (k+1) c1)).heap.size:=by simp;exact Nat.le_trans hsz hg1.size
    have hP7:=Pool.set hP1 b76 (fun t ht=>by
     rcases List.mem_cons.1 ht with e | ht
     ·rw [e];dsimp only;decide
     rcases List.mem_cons.1 ht with e | ht
     ·rw [e];dsimp only;decide
     rcases List.mem_cons.1 ht with e | ht
     ·rw [e];dsimp only;decide
     ·rw [slRows_e t ht];decide) 1 (.slice a1 (k+1) c1)
    clear hP1 hPN hd b7 b76 b2 b3 he hy hz hb1 hg1 hsz g2 f2 d71 d1 g1
    generalize w6.setCell ⟨G,1,none⟩ (.slice a1 (k+1) c1)=w7 at b77 b27 b37 he7 hy7 hz7 hs7 hP7⊢
    clear w6
    have hP8:=hP7.perm (((List.Perm.swap _ _ _).cons _).trans (List.Perm.swap _ _ _))
    obtain ⟨b9,o9,e9,-,hc9⟩:=HXT.out q _ (HF.out.accepts_at hq)
    subst e9
    have g9:w7.cell? ⟨b9,o9+q,none⟩=some (.bool (accepts X q)):=by have:=hc9 q _ (HF.out.accepts_at hq);rw [Nat.mul_one] at this;exact hy7.cell this
    obtain ⟨z,hz⟩:∃z,accepts X q=z:=⟨_,rfl⟩
    rw [hz] at g9
    have HZ:Hid ((res X q) []=z):=Lib.hid hz
    have i1:(q:Int)<(X.accept.length:Int):=by have:=HXACC.out;omega
    have D0:=fun d os=>cell_regrown (b77.cell 2 rfl) d os
    have D1:=fun d os=>cell_regrown (b37.cell 2 rfl) d os
    have D2:=fun d os=>cell_regrown g9 d os
    clear hP7 hc9 hz
    obtain ⟨Kc,HKc⟩:∃Kc:FuncId→Array Value→World→Value→World→Prop,Hid (Kc=fun _ _ _ _ _=>False):=⟨_,rfl⟩
    refine wp_region_ext (Kc:=Kc) 8 (by kernel_rfl) (by kernel_rfl) ?_
    simp only [List.take_succ_cons,List.take_zero]
    repeat (refine WalkE.pure rfl (fun K hK=>?_);simp only [PureDo];go_simp;refine hK _ ?_;clear hK K)
    refine WalkE.step (fun K hK we hwe hde=>?_)
    simp only [OpDo,OpSafe,OpOut]
    go_simp
    refine ⟨Ext.alloc _ _,hK _ _ ?_⟩
    clear hK K hde
    refine WalkE.nil (fun wn hwn hmn=>?_)
    simp only [List.drop_succ_cons,List.drop_zero,List.drop_nil]
    have x0:Ext w7 wn:=(Ext.drew _).trans hwn
    have hbn:Blk wn we.heap.size #[.bool z] 4:=(Blk.new we _ _).ext (hmn 7 (by omega))
    have hcell:∀(j:Nat) u,[Value.bool z][j]?=some u→wn.cell? ((⟨we.heap.size,0,none⟩:Addr).add j)=some u:=fun j u hu=>by
     rw [add_none,Nat.zero_add]
     exact hbn.cell j (by simpa using hu)
    have hP9:=hP8.ext x0
    have b73:=b77.ext x0
    have b23:=b27.ext x0
    have b33:=b37.ext x0
    have he3:=he7.trans x0
    have hy3:=hy7.trans x0
    have hz3:=hz7.trans x0
    have hs3:=Nat.le_trans hs7 x0.size
    clear hmn HKc D0 D1 D2 hwn hwe hbn x0 hP8 b77 b27 b37 he7 hy7 hz7 hs7 g9 i1
    generalize we.heap.size=gN at hcell⊢
    have hk33:k+1≤4294967296:=by omega
    go_wp2_with (at_builtin;refine appPN (news:=[Value.bool z]) rfl rfl Tryz.underlying29 infoBool rfl (by decide) hP9 rfl rfl (by simp) hcell (by simp [Value.oneCell']) hk33 (by decide) hs3 ?_;intro v1 w8 hP1 hg1 hb1;obtain ⟨a2,c2,rfl⟩:=own_any' (Pool.hd hP1);have b74:=b73.grown (Pool.hd hP9) hg1 (by decide);have g2:=b74.cell 2 rfl;have f2:=b74.fr 2)
    have hd:=Pool.hd hP9
    refine ⟨⟨k+1,_,_,vs++[.slice aW row.length cW],rows++[rowN nxR (letters X.alphabet) (clsD X) (res X q)],by omega,by go_num,Lib.hid (by rw [List.length_append,HVL.out];rfl),Lib.hid (by rw [take_lng _ HAT.out,HRW.out]),b74.set 2 (.slice a2 (k+1) c2),?_,(b23.grown hd hg1 (by decide)).other (p:=⟨G,2,none⟩) (by simp only [];omega) _,(b33.grown hd hg1 (by decide)).other (p:=⟨G,2,none⟩) (by simp only [];omega) _,(Below.trans he3 (hb1.mono (by omega))).setCell (p:=⟨G,2,none⟩) (by simp only [];omega) _,(Below.trans hy3 (hb1.mono (by rw [HP3.out];omega))).setCell (p:=⟨G,2,none⟩) (by simp only [HP3.out];omega) _,(Below.trans hz3 (hb1.mono (by rw [hG];omega))).setCell (p:=⟨G,2,none⟩) (by simp only [hG];omega) _⟩,by simp [intOf];omega⟩
    have hPS:=Pool.set hP1 b74 (fun t ht=>by
     rcases List.mem_cons.1 ht with e | ht
     ·rw [e];dsimp only;decide
     rcases List.mem_cons.1 ht with e | ht
     ·rw [e];dsimp only;decide
     rcases List.mem_cons.1 ht with e | ht
     ·rw [e];dsimp only;decide
     ·rw [slRows_e t ht];decide) 2 (.slice a2 (k+1) c2)
    have hF:=hPS.perm (perm_tr _ _ _ _)
    rw [slRows_push (by rw [HVL.out,HRW.out,List.length_map,List.length_take];have:=HN.out;omega),take_lacc HAT.out,HZ.out]
    unfold slInts
    rw [HRLN.out]
    exact hF
end Go.Proofs.YtadplnbadfnlfaaGreatDoor
