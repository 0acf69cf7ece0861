import Derived.Test.YtadplnbadfnlfaaGreatDoorWalkMs
import Derived.Test.YtadplnbadfnlfaaGreatDoorWalkSE
import Derived.Test.YtadplnbadfnlfaaGreatDoorPlainM
import Derived.Test.YtadplnbadfnlfaaGreatDoorSafeS
import Derived.Deep.DeepCutAuto
import Derived.Test.YtadplnbadfnlfaaGreatDoorWalkWk
namespace Go.Proofs.YtadplnbadfnlfaaGreatDoor
open Go Go.RowKit
set_option linter.unusedVariables false
set_option linter.unusedSimpArgs false
set_option maxHeartbeats 4000000
set_option maxRecDepth 100000
theorem Pool.left {base:Nat} {w:World} {l m:List Slc} (h:Pool base w (l++m)):Pool base w l:=
 ⟨fun s hs=>h.own s (List.mem_append_left _ hs),(List.pairwise_append.1 h.apt).1⟩
theorem Pool.right {base:Nat} {w:World} {l m:List Slc} (h:Pool base w (l++m)):Pool base w m:=
 ⟨fun s hs=>h.own s (List.mem_append_right _ hs),(List.pairwise_append.1 h.apt).2.1⟩
theorem Pool.intss {base:Nat} {w:World} {vs:List Value} {v:Value} {ll:List (List Int)} (h:Pool base w (⟨96,1,v,ll.length,vs⟩ :: slRows 3 vs ll)) (hlen:vs.length=ll.length):IntssV w v ll:=by
 refine IntssOwn.intss (e2:=96) (e1:=3) (base:=base) ⟨vs,h.head,h.tail.rowsAre hlen,fun j y hy=>?_⟩
 have hap:=(List.pairwise_cons.1 h.apt).1
 have hj:j<ll.length:=by rw [←hlen];exact (List.getElem?_eq_some_iff.1 hy).1
 have:=hap _ (List.mem_of_getElem? (slRows_at (e:=3) hy (List.getElem?_eq_getElem hj)))
 cases hb:y.ownBlock with
 | none=>exact .inl rfl
 | some k=>exact .inr fun he=>this k he.symm hb
theorem l9Row_s (a:Int) (x:Int) (w:World) (ha:0≤a) (ha2:a≤63) :
  Calls Tryz.prog 208 #[.int .i64 a,.int .i64 x] w (Gives (fun v w'=>IntsOwn 3 w.heap.size w' v (List.replicate (letters a).length x)) w):=by
 have hL6:(letters a).length≤6:=lettersTo_len a 6
 have hP0:=(Pool.nil w.heap.size w).addLit 3 1 (Nat.le_refl _) (Nat.le_refl _) (Ext.alloc w (.cells #[] 3)) (Blk.new _ _ _)
 go_enter Tryz.func208,Tryz.ntmps208
 go_wp2_with fail
 refine (l1Letters_c _ _ ha ha2).mono ?_
 rintro e w1 ⟨vl,rfl,he1,hl⟩
 obtain ⟨al,cl,rfl,-,-⟩:=hl.open
 have hx:=(Ext.alloc w (.cells #[] 3)).trans he1
 replace hP0:=hP0.ext he1
 obtain ⟨m,hm⟩:∃m,(letters a).length=m:=⟨_,rfl⟩
 have HM:=Lib.hid hm
 rw [hm] at hL6⊢
 clear hl he1 hm
 go_wp2_with fail
 go_loopw [5,6] (fun v i wr=>∃q:Nat,q≤m∧i=.int .i64 ((m-q:Nat):Int)∧Pool w.heap.size wr [⟨3,1,v,q,(List.replicate q x).map (Value.int .i64)⟩]∧Ext w wr) (fun _ i _=>(intOf i).toNat)
 case atStart=>exact ⟨0,by omega,by simp,hP0,hx⟩
 case round=>
  clear hP0 hx
  obtain ⟨q,hq,rfl,hP,hx⟩:=hrel
  obtain ⟨aO,cO,rfl⟩:=own_any' (Pool.hd hP)
  obtain ⟨r,hr⟩:∃r,m-q=r:=⟨_,rfl⟩
  rw [hr]
  by_cases hlt:0<r
  ·have hlt':(0:Int)<(r:Int):=by omega
   have hsz:w.heap.size≤wr.heap.size:=hx.size
   have hq32:q≤4294967296:=by omega
   go_wp2_with (at_builtin;refine appP (news:=[Value.int .i64 x]) rfl rfl Tryz.underlying96 infoInt rfl (by decide) hP rfl rfl rfl (by simp [Value.oneCell']) hq32 (by decide) hsz ?_;intro v1 w3 hP1 hg1 hb1)
   refine ⟨⟨q+1,by omega,by rw [show (r:Int)-1=((m-(q+1):Nat):Int) by omega],?_,Below.trans hx hb1⟩,by simp [intOf];omega⟩
   rw [List.replicate_succ',List.map_append]
   exact hP1
  ·have h0:¬(0:Int)<(r:Int):=by omega
   obtain rfl:q=m:=by omega
   have hO:IntsOwn 3 w.heap.size wr (.slice aO q cO) (List.replicate q x):=by
    unfold IntsOwn
    rw [List.length_replicate]
    exact Pool.hd hP
   go_wp2_with fail
   go_ret
   exact Gives.mk rfl hx (by rw [HM.out];exact hO)
theorem idxD_le {α:Type} [DecidableEq α] {l:List α} {x:α} {k:Nat} (h:l[k]?=some x):idxD l x≤k:=by
 apply Classical.byContradiction
 intro hn
 have:=List.not_of_lt_findIdx (p:=(· == x)) (xs:=l) (i:=k) (Nat.lt_of_not_le hn)
 obtain ⟨hh,he⟩:=List.getElem?_eq_some_iff.1 h
 simp [he] at this
theorem idxD_at {α:Type} [DecidableEq α] {l:List α} {x:α} (h:x∈l):l[idxD l x]?=some x:=idx_at h
theorem take_same {r xs:List Int} {q:Nat} {x y:Int} (hr:r[q]?=some x) (hx:xs[q]?=some y):(r.take (q+1)=xs.take (q+1))↔(r.take q=xs.take q∧x=y):=by
 rw [List.take_add_one,List.take_add_one,hr,hx]
 constructor
 ·intro h
  have hl:(r.take q).length=(xs.take q).length:=by
   have h1:=(List.getElem?_eq_some_iff.1 hr).1
   have h2:=(List.getElem?_eq_some_iff.1 hx).1
   simp;omega
  obtain ⟨h1,h2⟩:=List.append_inj h hl
  exact ⟨h1,by simpa using h2⟩
 ·rintro ⟨h1,rfl⟩
  rw [h1]
theorem l9Find_s (v v2:Value) (L:List (List Int)) (xs:List Int) (w:World) (hv:IntssV w v L) (hv2:IntsV w v2 xs) (hL:L.length≤1000) (hX:xs.length≤1000) (hlen:∀r∈L,r.length=xs.length) :
  Calls Tryz.prog 210 #[v,v2] w (Grows (.int .i64 (if xs∈L then (idxD L xs:Int) else -1)) w):=by
 obtain ⟨a,c,rfl,-,h2⟩:=hv.open
 obtain ⟨a2,c2,rfl,-,h3⟩:=hv2.open
 have H2:=Lib.hid h2
 have H3:=Lib.hid h3
 have HLEN:=Lib.hid hlen
 obtain ⟨res,hres⟩:∃res:Int,(if xs∈L then (idxD L xs:Int) else -1)=res:=⟨_,rfl⟩
 have HRES:=Lib.hid hres
 rw [hres]
 clear hv hv2 h2 h3 hlen hres
 go_enter Tryz.func210,Tryz.ntmps210
 go_wp2_with fail
 go_loopw [5,22,23,24,25,26,27,28,29,30,31,32,33] (fun i _ _ _ _ _ _ _ _ _ _ _ _ wr=>∃k:Nat,k≤L.length∧i=.int .i64 k∧Hid (∀j,j<k→L[j]?≠some xs)∧Ext w wr) (fun i _ _ _ _ _ _ _ _ _ _ _ _ _=>L.length-(intOf i).toNat)
 case atStart=>exact ⟨0,by omega,rfl,Lib.hid (fun j hj=>by omega),Ext.refl _⟩
 case round=>
  obtain ⟨k,hk,rfl,HK,hx⟩:=hrel
  by_cases hlt:k<L.length
  case neg=>
   obtain rfl:k=L.length:=by omega
   have HF:Hid (res=-1):=Lib.hid (by
    rw [←HRES.out,if_neg]
    intro hm
    obtain ⟨j,hj⟩:=List.getElem?_of_mem hm
    exact HK.out j (List.getElem?_eq_some_iff.1 hj).1 hj)
   go_wp2_with fail
   go_ret
   exact Grows.mk (by rw [HF.out];rfl) hx
  obtain ⟨r,hr⟩:∃r,L[k]?=some r:=⟨_,List.getElem?_eq_getElem hlt⟩
  obtain ⟨b,off,rfl,-,hc⟩:=H2.out k r hr
  obtain ⟨vr,g1,hvr⟩:=hc k r hr
  rw [Nat.mul_one] at g1
  obtain ⟨ar,cr,rfl,-,hrr⟩:=hvr.open
  have HRR:=Lib.hid hrr
  have HRL:Hid (r.length=xs.length):=Lib.hid (HLEN.out r (List.mem_of_getElem? hr))
  have HR:=Lib.hid hr
  have HG:=Lib.hid g1
  have hkL:(k:Int)<(L.length:Int):=by omega
  clear hc hvr hrr g1 hr
  go_wp2_with fail
  go_loopw [6,7,22,23,24,25,26,27,28,29,30,31,32,33] (fun s j _ _ _ _ _ _ _ _ _ _ _ _ wr=>∃(q:Nat) (bb:Bool),q≤xs.length∧j=.int .i64 q∧s=.bool bb∧Hid (bb=decide (r.take q=xs.take q))∧Ext w wr) (fun _ j _ _ _ _ _ _ _ _ _ _ _ _ _=>xs.length-(intOf j).toNat)
  case atStart=>exact ⟨0,true,by omega,rfl,rfl,Lib.hid (by simp),hx⟩
  case round=>
   clear hx
   obtain ⟨q,bb,hq,rfl,rfl,HB,hx⟩:=hrel
   by_cases hql:q<xs.length
   ·obtain ⟨y,hy⟩:∃y,xs[q]?=some y:=⟨_,List.getElem?_eq_getElem hql⟩
    obtain ⟨x,hxq⟩:∃x,r[q]?=some x:=⟨_,List.getElem?_eq_getElem (by rw [HRL.out];exact hql)⟩
    obtain ⟨b2,off2,rfl,-,hc2⟩:=H3.out q y hy
    have e2:=hc2 q y hy
    rw [Nat.mul_one] at e2
    obtain ⟨b3,off3,rfl,-,hc3⟩:=HRR.out q x hxq
    have e3:=hc3 q x hxq
    rw [Nat.mul_one] at e3
    have e2':=hx.cell e2
    have e3':=hx.cell e3
    have g1':=hx.cell HG.out
    have HT:=Lib.hid (take_same hxq hy)
    have hqx:(q:Int)<(xs.length:Int):=by omega
    have hqr:(q:Int)<(r.length:Int):=by rw [HRL.out];omega
    clear hc2 hc3 e2 e3 hy hxq
    have D0:=fun d os=>cell_regrown e2' d os
    have D1:=fun d os=>cell_regrown e3' d os
    have D2:=fun d os=>cell_regrown g1' d os
    cases bb with
    | true=>
     go_wp2_with fail
     refine wp_region_quiet_below (by kernel_rfl) (by kernel_rfl) ?_
     repeat (go_big_quiet_step (fail))
     refine wpQuiet_nil ?_
     intro _ hw'
     obtain ⟨⟨dq,osq⟩,hw''⟩:=hw'
     subst hw''
     have hq2:Ext wr (Go.Sort.grow (redrawn wr dq) osq):=below_regrown wr dq osq
     generalize Go.Sort.grow (redrawn wr dq) osq=wq at hq2⊢
     have HB2:Hid ((x==y)=decide (r.take (q+1)=xs.take (q+1))):=Lib.hid (by
      have h1:=HB.out.symm
      rw [decide_eq_true_eq] at h1
      rw [Bool.eq_iff_iff,decide_eq_true_eq,HT.out,beq_iff_eq]
      exact ⟨fun h=>⟨h1,h⟩,fun h=>h.2⟩)
     go_wp2_with fail
     exact ⟨⟨q+1,(x==y),by omega,by go_num,rfl,HB2,hx.trans hq2⟩,by simp [intOf];omega⟩
    | false=>
     go_wp2_with fail
     refine wp_region_quiet_below (by kernel_rfl) (by kernel_rfl) ?_
     repeat (go_big_quiet_step (fail))
     refine wpQuiet_nil ?_
     intro _ hw'
     obtain ⟨⟨dq,osq⟩,hw''⟩:=hw'
     subst hw''
     have hq2:Ext wr (Go.Sort.grow (redrawn wr dq) osq):=below_regrown wr dq osq
     generalize Go.Sort.grow (redrawn wr dq) osq=wq at hq2⊢
     have HB2:Hid (false=decide (r.take (q+1)=xs.take (q+1))):=Lib.hid (by
      have h1:=HB.out.symm
      rw [decide_eq_false_iff_not] at h1
      symm
      rw [decide_eq_false_iff_not,HT.out]
      exact fun h=>h1 h.1)
     go_wp2_with fail
     exact ⟨⟨q+1,false,by omega,by go_num,rfl,HB2,hx.trans hq2⟩,by simp [intOf];omega⟩
   ·obtain rfl:q=xs.length:=by omega
    have HB2:Hid (bb=decide (r=xs)):=Lib.hid (by
     rw [HB.out,List.take_length,←HRL.out,List.take_length])
    cases bb with
    | true=>
     have HF:Hid (res=(k:Int)):=Lib.hid (by
      have hrx:r=xs:=by have:=HB2.out.symm;rwa [decide_eq_true_eq] at this
      have hat:=HR.out
      rw [hrx] at hat
      have hm:=List.mem_of_getElem? hat
      rw [←HRES.out,if_pos hm]
      have h1:=idxD_at hm
      have h2:¬idxD L xs<k:=fun h=>HK.out _ h h1
      have h3:=idxD_le hat
      have:idxD L xs=k:=by omega
      rw [this])
     go_wp2_with fail
     go_ret
     exact Grows.mk (by rw [HF.out];rfl) hx
    | false=>
     have HK2:Hid (∀j,j<k+1→L[j]?≠some xs):=Lib.hid (fun j hj e=>by
      by_cases hjk:j<k
      ·exact HK.out j hjk e
      ·obtain rfl:j=k:=by omega
       rw [HR.out] at e
       have h1:=HB2.out.symm
       rw [decide_eq_false_iff_not] at h1
       exact h1 (Option.some.inj e))
     go_wp2_with fail
     exact ⟨⟨k+1,by omega,by go_num,HK2,hx⟩,by simp [intOf];omega⟩
structure RawMem (TC:Array Value) (al:Int) (w:World) (base B4:Nat) (pl:List Slc) (vN vA:Value) (wr:World):Prop where
 pool:Pool base wr pl
 ty:∀s∈pl,s.e=3∨s.e=96∨s.e=4
 b1:Blk wr w.heap.size TC 57
 b2:Blk wr (w.heap.size+1) #[.int .i64 0,.slice none 0 0,.slice none 0 0] 31
 b4:Blk wr B4 #[.int .i64 al,vN,vA] 31
 ext:Ext w wr
 size:base≤wr.heap.size
section
variable {TC:Array Value} {al:Int} {w wr w':World} {base B4:Nat} {pl pl':List Slc} {vN vA:Value}
theorem RawMem.mono (h:RawMem TC al w base B4 pl vN vA wr) (he:Ext wr w'):RawMem TC al w base B4 pl vN vA w':=⟨h.pool.ext he,h.ty,h.b1.ext he,h.b2.ext he,h.b4.ext he,h.ext.trans he,Nat.le_trans h.size he.size⟩
theorem RawMem.perm (h:RawMem TC al w base B4 pl vN vA wr) (hp:pl.Perm pl'):RawMem TC al w base B4 pl' vN vA wr:=⟨h.pool.perm hp,fun s hs=>h.ty s (hp.mem_iff.2 hs),h.b1,h.b2,h.b4,h.ext,h.size⟩
theorem RawMem.tl {s:Slc} (h:RawMem TC al w base B4 (s::pl) vN vA wr):RawMem TC al w base B4 pl vN vA wr:=⟨h.pool.tail,fun t ht=>h.ty t (List.mem_cons_of_mem _ ht),h.b1,h.b2,h.b4,h.ext,h.size⟩
theorem RawMem.add (h:RawMem TC al w base B4 pl vN vA wr) (he:Ext wr w') (s:Slc) {b:Nat} (hb:wr.heap.size≤b) (ht:s.e=3∨s.e=96∨s.e=4) (hs:w'.ownsRow b s.e s.sz s.v s.n s.xs):RawMem TC al w base B4 (s::pl) vN vA w':=
 ⟨h.pool.add he s hb (Nat.le_trans h.size hb) hs,fun t hm=>by rcases List.mem_cons.1 hm with rfl | hm;exact ht;exact h.ty t hm,h.b1.ext he,h.b2.ext he,h.b4.ext he,h.ext.trans he,Nat.le_trans h.size he.size⟩
theorem RawMem.grown {e:TypeId} {sz n n':Nat} {v v':Value} {xs xs':List Value} (h:RawMem TC al w base B4 (⟨e,sz,v,n,xs⟩ :: pl) vN vA wr) (hp:Pool base w' (⟨e,sz,v',n',xs'⟩ :: pl)) (hg:wr.grownBy w' v.ownBlock) (hb:Below base wr w') (hwb:w.heap.size≤base):RawMem TC al w base B4 (⟨e,sz,v',n',xs'⟩ :: pl) vN vA w':=by
 have ht:=h.ty _ (List.mem_cons_self ..)
 have h1:57≠e:=by rcases ht with r | r | r <;> (have r':e=_:=r;rw [r'];decide)
 have h2:31≠e:=by rcases ht with r | r | r <;> (have r':e=_:=r;rw [r'];decide)
 exact ⟨hp,fun t hm=>by rcases List.mem_cons.1 hm with rfl | hm;exact ht;exact h.ty t (List.mem_cons_of_mem _ hm),h.b1.grown h.pool.hd hg h1,h.b2.grown h.pool.hd hg h2,h.b4.grown h.pool.hd hg h2,Below.trans h.ext (hb.mono hwb),Nat.le_trans h.size hg.size⟩
theorem RawMem.nty (h:RawMem TC al w base B4 pl vN vA wr):∀s∈pl,31≠s.e:=fun s hs=>by
 rcases h.ty s hs with r | r | r <;> rw [r] <;> decide
theorem RawMem.put1 (h:RawMem TC al w base B4 pl vN vA wr) (hB:w.heap.size+1<B4) (v:Value):RawMem TC al w base B4 pl v vA (wr.setCell ⟨B4,1,none⟩ v):=
 ⟨h.pool.set h.b4 h.nty 1 v,h.ty,h.b1.other (p:=⟨B4,1,none⟩) (by simp only [];omega) v,h.b2.other (p:=⟨B4,1,none⟩) (by simp only [];omega) v,h.b4.set 1 v,h.ext.setCell (p:=⟨B4,1,none⟩) (by simp only [];omega) v,by simpa using h.size⟩
theorem RawMem.put2 (h:RawMem TC al w base B4 pl vN vA wr) (hB:w.heap.size+1<B4) (v:Value):RawMem TC al w base B4 pl vN v (wr.setCell ⟨B4,2,none⟩ v):=
 ⟨h.pool.set h.b4 h.nty 2 v,h.ty,h.b1.other (p:=⟨B4,2,none⟩) (by simp only [];omega) v,h.b2.other (p:=⟨B4,2,none⟩) (by simp only [];omega) v,h.b4.set 2 v,h.ext.setCell (p:=⟨B4,2,none⟩) (by simp only [];omega) v,by simpa using h.size⟩
end
def listP (nP:Nat) (vL:Value) (m:Nat) (vs:List Value) (list:List Sets):List Slc:=⟨96,1,vL,m,vs⟩ :: slRows 3 vs (list.map (setsL nP))
def outP (vN vA:Value) (kk:Nat) (vr:List Value) (rs:List (List Int)) (acc:List Bool) (Z:Slc):List Slc:=⟨96,1,vN,kk,vr⟩ :: ⟨4,1,vA,kk,acc.map Value.bool⟩ :: (slRows 3 vr rs++[Z])
theorem perm_r1 (n a row Z:Slc) (A R:List Slc):(row::(A++(n::a::(R++[Z])))).Perm (n::row::(A++(a::(R++[Z])))):=(List.perm_middle.cons row).trans (List.Perm.swap n row _)
theorem perm_r2 (n a row:Slc) (A X:List Slc):(n::row::(A++(a::X))).Perm (a::n::row::(A++X)):=((List.perm_middle.cons row).cons n).trans (((List.Perm.swap a row _).cons n).trans (List.Perm.swap a n _))
theorem perm_r3 (n a row Z:Slc) (A R:List Slc):(a::n::row::(A++(R++[Z]))).Perm (A++(n::a::((R++[row])++[Z]))):=by
 have h1:(A++(n::a::((R++[row])++[Z]))).Perm (n::a::(A++((R++[row])++[Z]))):=List.perm_middle.trans (List.perm_middle.cons n)
 have h2:(A++((R++[row])++[Z])).Perm (row::(A++(R++[Z]))):=by
  rw [List.append_assoc,←List.append_assoc,←List.append_assoc A R [Z]]
  exact List.perm_middle
 exact ((h1.trans ((h2.cons a).cons n)).trans (List.Perm.swap a n _)).symm
theorem perm_r4 (n a s row:Slc) (Y:List Slc):(s::a::n::row::Y).Perm (n::a::s::row::Y):=
 ((List.Perm.swap a s _).trans ((List.Perm.swap n s _).cons a)).trans (List.Perm.swap n a _)
theorem perm_r5 (n a s row:Slc) (Y:List Slc):(n::a::s::row::Y).Perm (a::n::s::row::Y):=List.Perm.swap a n _
theorem perm_r6 (n a s row Z:Slc) (A:List Slc):(a::n::s::row::(A++[Z])).Perm (A++(n::a::(([row]++[s])++[Z]))):=by
 have h1:(A++(n::a::(([row]++[s])++[Z]))).Perm (n::a::(A++(row::s::[Z]))):=List.perm_middle.trans (List.perm_middle.cons n)
 have h2:(A++(row::s::[Z])).Perm (row::s::(A++[Z])):=List.perm_middle.trans (List.perm_middle.cons row)
 exact ((h1.trans ((h2.cons a).cons n)).trans ((List.Perm.swap a n _).trans (((List.Perm.swap s row _).cons n).cons a))).symm
theorem perm_l (g row l:Slc) (R T:List Slc):(g::row::(l::R++T)).Perm (l::row::((R++[g])++T)):=by
 have h1:((R++[g])++T).Perm (g::(R++T)):=by rw [List.append_assoc];exact List.perm_middle
 refine List.Perm.symm (((h1.cons row).cons l).trans ?_)
 exact (((List.Perm.swap g row _).cons l).trans (List.Perm.swap g l _)).trans ((List.Perm.swap row l _).cons g)
theorem setsL_inj {t:Task} {f g:Sets} (hf:Within t f) (hg:Within t g) (h:setsL t.prop.next.length f=setsL t.prop.next.length g):f=g:=by
 funext p
 by_cases hp:p<t.prop.next.length
 ·have h1:=setsL_at f hp
  rw [h,setsL_at g hp] at h1
  have:=Option.some.inj h1
  omega
 ·rw [within_zero hf (by omega),within_zero hg (by omega)]
theorem find_sets {t:Task} {list:List Sets} {g:Sets} (hl:∀f∈list,Within t f) (hg:Within t g):(if setsL t.prop.next.length g∈list.map (setsL t.prop.next.length) then (idxD (list.map (setsL t.prop.next.length)) (setsL t.prop.next.length g):Int) else -1)=if g∈list then (idxD list g:Int) else -1:=by
 by_cases h:g∈list
 ·rw [if_pos (List.mem_map.2 ⟨g,h,rfl⟩),if_pos h,idxD_map _ (fun a ha b hb e=>setsL_inj (hl a ha) (hl b hb) e) h]
 ·rw [if_neg,if_neg h]
  intro hm
  obtain ⟨f,hf,e⟩:=List.mem_map.1 hm
  rw [setsL_inj (hl f hf) hg e] at hf
  exact h hf
theorem list_own {t:Task} {base:Nat} {w:World} {vL:Value} {m:Nat} {vs:List Value} {list:List Sets} {T:List Slc} (h:Pool base w (listP t.prop.next.length vL m vs list++T)) (hv:vs.length=m) (hl:list.length=m):IntssV w vL (list.map (setsL t.prop.next.length)):=by
 refine Pool.intss (vs:=vs) (base:=base) ?_ (by rw [hv,List.length_map,hl])
 rw [List.length_map,hl]
 exact h.left
theorem list_at {t:Task} {base:Nat} {w:World} {vL:Value} {m:Nat} {vs:List Value} {list:List Sets} {T:List Slc} (h:Pool base w (listP t.prop.next.length vL m vs list++T)) (hn:1≤t.prop.next.length) (hv:vs.length=m) (hl:list.length=m) {k:Nat} {f:Sets} (hk:k<m) (hf:list[k]?=some f):∃g cap,vs[k]?=some (.slice (some ⟨g,0,none⟩) t.prop.next.length cap)∧SetsOwn base t.prop.next.length g cap w f:=by
 obtain ⟨x,hx⟩:∃x,vs[k]?=some x:=⟨_,List.getElem?_eq_getElem (by rw [hv];exact hk)⟩
 have hm:(setsL t.prop.next.length f)=setsL t.prop.next.length f:=rfl
 have h1:=h.left.tail.own _ (List.mem_of_getElem? (slRows_at (e:=3) hx (show (list.map (setsL t.prop.next.length))[k]?=some (setsL t.prop.next.length f) by rw [List.getElem?_map,hf];rfl)))
 obtain ⟨g,cap,e,-⟩:=own_at (j:=0) (u:=.int .i64 (f 0:Int)) h1 (by show ((setsL t.prop.next.length f).map (Value.int .i64))[0]?=_;rw [List.getElem?_map,setsL_at _ (by omega)];rfl)
 have e':x=.slice (some ⟨g,0,none⟩) t.prop.next.length cap:=by
  have:x=.slice (some ⟨g,0,none⟩) (setsL t.prop.next.length f).length cap:=e
  rwa [setsL_len] at this
 subst e'
 refine ⟨g,cap,hx,?_⟩
 have h2:w.ownsRow base 3 1 (.slice (some ⟨g,0,none⟩) t.prop.next.length cap) (setsL t.prop.next.length f).length ((setsL t.prop.next.length f).map (Value.int .i64)):=h1
 rw [setsL_len] at h2
 exact h2
theorem nxW_some_r (t:Task) (f:Sets) (l:Int):nxW t (some f) l=if badM t (afterM t f l) then none else some (afterM t f l):=rfl
theorem SlV_ext {w w':World} {v:Value} {l:List (List Int)} (h:IntssV w v l) (he:Ext w w'):IntssV w' v l:=h.mono he
def RawEnd (t:Task) (w:World) (e:Ending) (w':World):Prop:=
 Ext w w'∧((e=.returned (.tuple #[.agg #[.int .i64 0,.slice none 0 0,.slice none 0 0],.bool false])∧TooGood t)∨∃v' ns,e=.returned (.tuple #[v',.bool true])∧ClosedN (nxW t) (letters t.alphabet) (startW t) ns∧ns.length≤41∧¬TooGood t∧AutoOwn w.heap.size w' v' (autoN (nxW t) t.alphabet Option.isSome ns))
theorem l9Raw_s (v:Value) (t:Task) (w:World) (hV:TaskV w v t) (ht:taskValid t=true) (hel:t.sys.edges.length≤1048576) :
  Calls Tryz.prog 122 #[v] w (RawEnd t w):=by
 obtain ⟨ve,vn,va,rfl,h1,h2,h3⟩:=hV
 obtain ⟨ae,ce,rfl,-,-⟩:=h1.open
 obtain ⟨an,cn,rfl,-,-⟩:=h2.open
 obtain ⟨aa,ca,rfl,-,-⟩:=h3.open
 have HV:=Lib.hid (show ∀w',Ext w w'→TaskV w' (.agg #[.int .i64 t.sys.alphabet,.int .i64 t.sys.states,.slice ae t.sys.edges.length ce,.int .i64 t.prop.alphabet,.slice an t.prop.next.length cn,.slice aa t.prop.accept.length ca,.int .i64 t.alphabet]) t from fun w' h=>⟨_,_,_,rfl,h1.mono h,h2.mono h,h3.mono h⟩)
 obtain ⟨hs,hp,hA⟩:=taskValid_facts ht
 obtain ⟨ha0,ha63⟩:=alpha_facts hA
 have hnP:1≤t.prop.next.length∧t.prop.next.length≤12:=⟨(autoValid_facts hp).2.2.1,(autoValid_facts hp).2.2.2.1⟩
 have HT:=Lib.hid ht
 have HW0:=Lib.hid (startC_within hs hp)
 have HAW:=Lib.hid (fun f (hf:Within t f) l=>afterM_within hs hp hf l)
 have HRS:=Lib.hid (fun hb=>RawSt.start (t:=t) hs hp hb)
 have HEL:=Lib.hid hel
 clear h1 h2 h3 ht hel
 obtain ⟨nL,hnL⟩:∃nL,(letters t.alphabet).length=nL:=⟨_,rfl⟩
 have hL6:nL≤6:=by rw [←hnL];exact lettersTo_len t.alphabet 6
 have HNL:=Lib.hid hnL
 clear hnL hs hp hA
 obtain ⟨wo,hwo⟩:∃wo,wo=(w.alloc (.cells #[.int .i64 t.sys.alphabet,.int .i64 t.sys.states,.slice ae t.sys.edges.length ce,.int .i64 t.prop.alphabet,.slice an t.prop.next.length cn,.slice aa t.prop.accept.length ca,.int .i64 t.alphabet] 57)).alloc (.cells #[.int .i64 0,.slice none 0 0,.slice none 0 0] 31):=⟨_,rfl⟩
 have he:Ext w wo:=by rw [hwo];exact (Ext.alloc _ _).trans (Ext.alloc _ _)
 have b1:Blk wo w.heap.size #[.int .i64 t.sys.alphabet,.int .i64 t.sys.states,.slice ae t.sys.edges.length ce,.int .i64 t.prop.alphabet,.slice an t.prop.next.length cn,.slice aa t.prop.accept.length ca,.int .i64 t.alphabet] 57:=by rw [hwo];exact Ext.blk (Ext.alloc _ _)
 have b2:Blk wo (w.heap.size+1) #[.int .i64 0,.slice none 0 0,.slice none 0 0] 31:=by rw [hwo];exact Ext.blk1 (Ext.refl _)
 go_enter Tryz.func122,Tryz.ntmps122
 go_upto_region 1 with fail
 rw [←hwo]
 clear hwo
 have cc0:=b1.cell 0 rfl;have cc1:=b1.cell 1 rfl;have cc2:=b1.cell 2 rfl;have cc3:=b1.cell 3 rfl;have cc4:=b1.cell 4 rfl;have cc5:=b1.cell 5 rfl;have cc6:=b1.cell 6 rfl
 go_upto_region 2 with fail
 obtain ⟨wb,hwb⟩:∃wb,wb=wo.alloc (.cells #[.int .i64 t.alphabet,.slice none 0 0,.slice none 0 0] 31):=⟨_,rfl⟩
 have yb:Ext wo wb:=by rw [hwb];exact Ext.alloc _ _
 have b4:Blk wb wo.heap.size #[.int .i64 t.alphabet,.slice none 0 0,.slice none 0 0] 31:=by rw [hwb];exact Blk.new _ _ _
 rw [←hwb]
 clear hwb
 have l2:w.heap.size+1<wo.heap.size:=b2.lt
 replace he:=he.trans yb
 replace b1:=b1.ext yb
 replace b2:=b2.ext yb
 have l4:wo.heap.size<wb.heap.size:=b4.lt
 clear cc0 cc1 cc2 cc3 cc4 cc5 cc6 yb
 obtain ⟨B4,hB4⟩:∃B4,wo.heap.size=B4:=⟨_,rfl⟩
 rw [hB4] at b4 l2 l4⊢
 clear hB4
 clear wo
 have cc0:=b1.cell 0 rfl;have cc1:=b1.cell 1 rfl;have cc2:=b1.cell 2 rfl;have cc3:=b1.cell 3 rfl;have cc4:=b1.cell 4 rfl;have cc5:=b1.cell 5 rfl;have cc6:=b1.cell 6 rfl
 go_wp2_with fail
 refine (l1Letters_o _ _ ha0 ha63).mono ?_
 rintro e w2 ⟨vl,rfl,he2,hLo⟩
 obtain ⟨aZ,cZ,rfl⟩:=hLo.shape
 have hM2:RawMem #[.int .i64 t.sys.alphabet,.int .i64 t.sys.states,.slice ae t.sys.edges.length ce,.int .i64 t.prop.alphabet,.slice an t.prop.next.length cn,.slice aa t.prop.accept.length ca,.int .i64 t.alphabet] t.alphabet w wb.heap.size B4 [⟨3,1,.slice aZ (letters t.alphabet).length cZ,(letters t.alphabet).length,(letters t.alphabet).map (Value.int .i64)⟩] (.slice none 0 0) (.slice none 0 0) w2:=
  ⟨⟨fun s hs=>by (obtain rfl:s=_:=by simpa using hs);exact hLo,List.pairwise_cons.2 ⟨fun s hs=>by (cases hs),List.Pairwise.nil⟩⟩,fun s hs=>by (obtain rfl:s=_:=by simpa using hs);exact .inl rfl,b1.ext he2,b2.ext he2,b4.ext he2,he.trans he2,he2.size⟩
 rw [HNL.out] at hM2⊢
 have hwbase:w.heap.size≤wb.heap.size:=he.size
 obtain ⟨base,hbase⟩:∃base,wb.heap.size=base:=⟨_,rfl⟩
 rw [hbase] at hM2 hwbase l4
 clear hLo he2 b1 b2 b4 he hbase cc0 cc1 cc2 cc3 cc4 cc5 cc6
 clear wb
 have cc0:=hM2.b1.cell 0 rfl;have cc1:=hM2.b1.cell 1 rfl;have cc2:=hM2.b1.cell 2 rfl;have cc3:=hM2.b1.cell 3 rfl;have cc4:=hM2.b1.cell 4 rfl;have cc5:=hM2.b1.cell 5 rfl;have cc6:=hM2.b1.cell 6 rfl
 go_wp2_with fail
 refine (l9Start_c _ t _ (HV.out _ hM2.ext) HT.out HEL.out).mono ?_
 rintro e w3 ⟨g0,cap0,rfl,he3,hs3⟩
 have hM3:=hM2.add he3 ⟨3,1,.slice (some ⟨g0,0,none⟩) t.prop.next.length cap0,t.prop.next.length,(setsL t.prop.next.length (closeM t startM)).map (Value.int .i64)⟩ (b:=w2.heap.size) (Nat.le_refl _) (.inl rfl) hs3
 clear cc0 cc1 cc2 cc3 cc4 cc5 cc6 hM2 he3 hs3
 clear w2
 go_upto_region 4 with fail
 have hM4:=hM3.add (Ext.alloc w3 (.cells #[.slice (some ⟨g0,0,none⟩) t.prop.next.length cap0] 96)) ⟨96,1,.slice (some ⟨w3.heap.size,0,none⟩) 1 1,1,[.slice (some ⟨g0,0,none⟩) t.prop.next.length cap0]⟩ (b:=w3.heap.size) (Nat.le_refl _) (.inr (.inl rfl)) ⟨by simp,.inr ⟨w3.heap.size,1,#[.slice (some ⟨g0,0,none⟩) t.prop.next.length cap0],rfl,Nat.le_refl _,heap_alloc_new w3 _,Nat.le_refl _,by unfold maxLen;omega,by simp,by simp⟩⟩
 have hlc:(w3.alloc (.cells #[.slice (some ⟨g0,0,none⟩) t.prop.next.length cap0] 96)).cell? ⟨w3.heap.size,0,none⟩=some (.slice (some ⟨g0,0,none⟩) t.prop.next.length cap0):=(Blk.new w3 #[.slice (some ⟨g0,0,none⟩) t.prop.next.length cap0] 96).cell 0 rfl
 generalize w3.alloc (.cells #[.slice (some ⟨g0,0,none⟩) t.prop.next.length cap0] 96)=w4 at hM4 hlc⊢
 generalize w3.heap.size=gL at hM4 hlc⊢
 clear hM3
 clear w3
 obtain ⟨b0,hb0⟩:∃b0,badM t (closeM t startM)=b0:=⟨_,rfl⟩
 have HB0:=Lib.hid hb0
 have HBAD:=Lib.hid (fun w' (h:Ext w4 w')=>(by
  have:=l9Bad_c _ t (closeM t startM) base g0 cap0 w' (HV.out w' (hM4.ext.trans h)) HT.out HW0.out (own_ext hM4.pool.tail.hd h)
  rw [hb0] at this;exact this:Calls Tryz.prog 207 #[(.agg #[.int .i64 t.sys.alphabet,.int .i64 t.sys.states,.slice ae t.sys.edges.length ce,.int .i64 t.prop.alphabet,.slice an t.prop.next.length cn,.slice aa t.prop.accept.length ca,.int .i64 t.alphabet]),.slice (some ⟨g0,0,none⟩) t.prop.next.length cap0] w' (Grows (.bool b0) w')))
 have D0:=fun d os=>cell_regrown (hM4.b1.cell 0 rfl) d os;have D1:=fun d os=>cell_regrown (hM4.b1.cell 1 rfl) d os;have D2:=fun d os=>cell_regrown (hM4.b1.cell 2 rfl) d os;have D3:=fun d os=>cell_regrown (hM4.b1.cell 3 rfl) d os;have D4:=fun d os=>cell_regrown (hM4.b1.cell 4 rfl) d os;have D5:=fun d os=>cell_regrown (hM4.b1.cell 5 rfl) d os;have D6:=fun d os=>cell_regrown (hM4.b1.cell 6 rfl) d os
 have D7:=fun d os=>cell_regrown hlc d os
 clear hb0
 go_wp2_with fail
 refine wp_region_quiet_below (by kernel_rfl) (by kernel_rfl) ?_
 repeat (go_big_quiet_step (first | (go_at_call 207;exact Grows.quiet (HBAD.out _ (below_regrown _ _ _)))))
 refine wpQuiet_nil ?_
 intro _ hw'
 obtain ⟨⟨dq,osq⟩,hw''⟩:=hw'
 subst hw''
 have hq2:Ext w4 (Go.Sort.grow (redrawn w4 dq) osq):=below_regrown w4 dq osq
 generalize Go.Sort.grow (redrawn w4 dq) osq=wq at hq2⊢
 have hM5:=hM4.mono hq2
 clear D0 D1 D2 D3 D4 D5 D6 D7 hM4 hlc HBAD hq2
 clear w4
 cases b0 with
 | true=>
  have D0:=fun d os=>cell_regrown (hM5.b4.cell 1 rfl) d os
  have D1:=fun d os=>cell_regrown (hM5.b1.cell 6 rfl) d os
  go_wp2_with fail
  obtain ⟨Kc,HKc⟩:∃Kc:FuncId→Array Value→World→Value→World→Prop,Hid (Kc=fun f args w0 v w'=>Ext w0 w'∧IntsOwn 3 w0.heap.size w' v (List.replicate nL 0)):=⟨_,rfl⟩
  refine wp_region_ext (Kc:=Kc) 6 (by kernel_rfl) (by kernel_rfl) ?_
  simp only [List.take_succ_cons,List.take_zero]
  repeat (refine WalkE.pure rfl (fun K hK=>?_);simp only [PureDo];go_simp;refine hK _ ?_;clear hK K)
  refine WalkE.step (fun K hK wd hwd hdd=>?_)
  simp only [OpDo,OpSafe,OpOut]
  go_simp
  refine ⟨(l9Row_s _ 0 _ ha0 ha63).mono ?_,?_⟩
  ·rintro e w' ⟨v,rfl,he',ho⟩
   exact ⟨v,rfl,by rw [HKc.out,←HNL.out];exact ⟨he',ho⟩⟩
  intro u4 wx hk4
  rw [HKc.out] at hk4
  obtain ⟨hk1,hk2⟩:=hk4
  refine ⟨hk1,hK _ _ ?_⟩
  obtain ⟨aR,cR,e9⟩:=hk2.shape
  rw [List.length_replicate] at e9
  subst e9
  have hk2:wx.ownsRow wd.heap.size 3 1 (.slice aR nL cR) nL ((List.replicate nL (0:Int)).map (Value.int .i64)):=by have h9:=hk2;unfold IntsOwn at h9;rwa [List.length_replicate] at h9
  clear hK K hdd
  refine WalkE.step (fun K hK we hwe hde=>?_)
  simp only [OpDo,OpSafe,OpOut]
  go_simp
  refine ⟨Ext.alloc _ _,hK _ _ ?_⟩
  clear hK K hde
  refine WalkE.nil (fun wn hwn hmn=>?_)
  simp only [List.drop_succ_cons,List.drop_zero,List.drop_nil]
  have x0:Ext wq wn:=(Ext.drew _).trans hwn
  have hrow:=own_ext hk2 (hmn 4 (by omega))
  have hbn:Blk wn we.heap.size #[.slice aR nL cR] 96:=(Blk.new we _ _).ext (hmn 5 (by omega))
  have hcell:∀(j:Nat) u,[Value.slice aR nL cR][j]?=some u→wn.cell? ((⟨we.heap.size,0,none⟩:Addr).add j)=some u:=fun j u hu=>by
   rw [add_none,Nat.zero_add]
   exact hbn.cell j (by simpa using hu)
  have hds:wq.heap.size≤wd.heap.size:=((Ext.drew _).trans hwd).size
  have hM6:RawMem #[.int .i64 t.sys.alphabet,.int .i64 t.sys.states,.slice ae t.sys.edges.length ce,.int .i64 t.prop.alphabet,.slice an t.prop.next.length cn,.slice aa t.prop.accept.length ca,.int .i64 t.alphabet] t.alphabet w base B4 [⟨96,1,.slice none 0 0,0,[]⟩,⟨4,1,.slice none 0 0,0,[]⟩,⟨3,1,.slice aR nL cR,nL,(List.replicate nL (0:Int)).map (Value.int .i64)⟩] (.slice none 0 0) (.slice none 0 0) wn:=by
   have p1:=(Pool.nil base wq).add x0 ⟨3,1,.slice aR nL cR,nL,(List.replicate nL (0:Int)).map (Value.int .i64)⟩ (b:=wd.heap.size) hds (Nat.le_trans hM5.size hds) hrow
   have h9:=hM5.mono x0
   exact ⟨(p1.addNil 4 1).addNil 96 1,fun s hs=>by
    simp only [List.mem_cons,List.mem_nil_iff,or_false] at hs
    rcases hs with rfl | rfl | rfl
    ·exact .inr (.inl rfl)
    ·exact .inr (.inr rfl)
    ·exact .inl rfl,h9.b1,h9.b2,h9.b4,h9.ext,h9.size⟩
  have hsz:=hM6.size
  have hPP:=hM6.pool
  clear hmn HKc D0 D1 hwn hwd hk2 hbn x0 hwe hrow hk1 hM5 hds
  generalize we.heap.size=gN at hcell⊢
  go_upto_region 6 with (at_builtin;refine appPN (news:=[Value.slice aR nL cR]) rfl rfl Tryz.underlying28 infoInts rfl (by decide) hPP rfl rfl (by simp) hcell (by simp [Value.oneCell']) (by decide) (by decide) hsz ?_;intro v1 w6 hP1 hg1 hb1;obtain ⟨a1,c1,rfl⟩:=own_any' (Pool.hd hP1);have b46:=(hM6.grown hP1 hg1 hb1 hwbase).b4;have g2:=b46.cell 1 rfl;have f2:=b46.fr 1)
  have hM7:=(hM6.grown hP1 hg1 hb1 hwbase).put1 l2 (.slice a1 1 c1)
  clear hM6 hPP hP1 hg1 hb1 b46 g2 f2 hsz hcell
  generalize w6.setCell ⟨B4,1,none⟩ (.slice a1 1 c1)=w7 at hM7⊢
  have hM8:=hM7.perm (List.Perm.swap _ _ _)
  have hsz:=hM8.size
  have hPP:=hM8.pool
  have d2:=hM8.b4.cell 2 rfl
  go_upto_region 7 with (at_builtin;refine appP (news:=[Value.bool false]) rfl rfl Tryz.underlying29 infoBool rfl (by decide) hPP rfl rfl rfl (by simp [Value.oneCell']) (by decide) (by decide) hsz ?_;intro v1 w6 hP1 hg1 hb1;obtain ⟨a2,c2,rfl⟩:=own_any' (Pool.hd hP1);have b46:=(hM8.grown hP1 hg1 hb1 hwbase).b4;have g2:=b46.cell 2 rfl;have f2:=b46.fr 2)
  have hM9:=(hM8.grown hP1 hg1 hb1 hwbase).put2 l2 (.slice a2 1 c2)
  clear hM7 hM8 hPP hP1 hg1 hb1 b46 g2 f2 hsz d2
  generalize w6.setCell ⟨B4,2,none⟩ (.slice a2 1 c2)=w8 at hM9⊢
  obtain ⟨hcl,hng⟩:=none_closed HB0.out
  have hEND:AutoOwn base w8 (.agg #[.int .i64 t.alphabet,.slice a1 1 c1,.slice a2 1 c2]) (autoN (nxW t) t.alphabet Option.isSome [none]):=by
   have hrow:rowN (nxW t) (letters t.alphabet) [none] none=List.replicate nL 0:=by
    unfold rowN
    rw [List.eq_replicate_iff]
    refine ⟨by rw [List.length_map,HNL.out],fun x hx=>?_⟩
    obtain ⟨l,hl,rfl⟩:=List.mem_map.1 hx
    exact congrArg (fun n:Nat=>(n:Int)) (idxD_hd (none:Option Sets) [])
   refine Pool.auto (x:=autoN (nxW t) t.alphabet Option.isSome [none]) (vs:=[.slice aR nL cR]) (vn:=.slice a1 1 c1) (va:=.slice a2 1 c2) (w:=w8) (base:=base) ?_ (by simp [autoN])
   have e1:(autoN (nxW t) t.alphabet Option.isSome [none]).next=[List.replicate nL 0]:=by show [rowN _ _ _ _]=_;rw [hrow]
   have e2:(autoN (nxW t) t.alphabet Option.isSome [none]).accept=[false]:=rfl
   have e3:slRows 3 [.slice aR nL cR] [List.replicate nL (0:Int)]=[⟨3,1,.slice aR nL cR,nL,(List.replicate nL (0:Int)).map (Value.int .i64)⟩]:=by
    show [slInts _ _ _]=_
    unfold slInts
    rw [List.length_replicate]
   rw [e1,e2,e3]
   exact hM9.pool.perm (List.Perm.swap _ _ _)
  have HFIN:=Lib.hid hEND
  have HCL:=Lib.hid hcl
  have HNG:=Lib.hid hng
  have gc0:=hM9.b4.cell 0 rfl;have gc1:=hM9.b4.cell 1 rfl;have gc2:=hM9.b4.cell 2 rfl
  have b2:=hM9.b2
  have he:=hM9.ext
  have rc0:=b2.cell 0 rfl;have rf0:=b2.fr 0;have rc1:=b2.cell 1 rfl;have rf1:=b2.fr 1;have rc2:=b2.cell 2 rfl;have rf2:=b2.fr 2
  clear hEND hcl hng
  go_wp2_with fail
  refine bodyPost_ret (v:=.tuple #[.agg #[.int .i64 t.alphabet,.slice a1 1 c1,.slice a2 1 c2],.bool true]) (by simp [results,Tryz.results122,go_sem,rc0,rc1,rc2,rf0,rf1,rf2]) rfl ?_
  refine ⟨(((he.setCell (p:=⟨(w.heap.size+1),0,none⟩) (by simp only [];omega) _).setCell (p:=⟨(w.heap.size+1),1,none⟩) (by simp only [];omega) _).setCell (p:=⟨(w.heap.size+1),2,none⟩) (by simp only [];omega) _),.inr ⟨_,[none],rfl,HCL.out,by simp,HNG.out,?_⟩⟩
  exact (auto_store (auto_store (auto_store HFIN.out b2 (by decide) (by decide) (by decide) 0 _) (b2.set 0 _) (by decide) (by decide) (by decide) 1 _) ((b2.set 0 _).set 1 _) (by decide) (by decide) (by decide) 2 _).low hwbase
 | false=>
  have hM0:RawMem #[.int .i64 t.sys.alphabet,.int .i64 t.sys.states,.slice ae t.sys.edges.length ce,.int .i64 t.prop.alphabet,.slice an t.prop.next.length cn,.slice aa t.prop.accept.length ca,.int .i64 t.alphabet] t.alphabet w base B4 (listP t.prop.next.length (.slice (some ⟨gL,0,none⟩) 1 1) 1 [.slice (some ⟨g0,0,none⟩) t.prop.next.length cap0] [closeM t startM]++outP (.slice none 0 0) (.slice none 0 0) 0 [] (outRows nL []) (outAcc 0) ⟨3,1,.slice aZ nL cZ,nL,(letters t.alphabet).map (Value.int .i64)⟩) (.slice none 0 0) (.slice none 0 0) wq:=by
   have p1:=(hM5.pool.addNil 4 1).addNil 96 1
   have hlen0:(setsL t.prop.next.length (closeM t startM)).length=t.prop.next.length:=setsL_len _ _
   refine ⟨?_,fun s hs=>?_,hM5.b1,hM5.b2,hM5.b4,hM5.ext,hM5.size⟩
   ·unfold listP outP
    have e1:slRows 3 [.slice (some ⟨g0,0,none⟩) t.prop.next.length cap0] ([closeM t startM].map (setsL t.prop.next.length))=[⟨3,1,.slice (some ⟨g0,0,none⟩) t.prop.next.length cap0,t.prop.next.length,(setsL t.prop.next.length (closeM t startM)).map (Value.int .i64)⟩]:=by
     show [slInts _ _ _]=_
     unfold slInts
     rw [hlen0]
    rw [e1]
    exact p1.perm (List.Perm.append_right [_] (List.perm_append_comm (l₁:=[_,_]) (l₂:=[_,_])))
   ·unfold listP outP at hs
    simp only [List.mem_append,List.mem_cons,List.mem_nil_iff,or_false] at hs
    rcases hs with (rfl | hs) | rfl | rfl | hs | rfl
    ·exact .inr (.inl rfl)
    ·exact .inl (slRows_e _ hs)
    ·exact .inr (.inl rfl)
    ·exact .inr (.inr rfl)
    ·exact .inl (slRows_e _ hs)
    ·exact .inl rfl
  have HST0:=Lib.hid (HRS.out HB0.out)
  clear hM5
  go_wp2_with fail
  go_loopw [6,7] (fun vL i wr=>∃(k m kk:Nat) (list:List Sets) (vs vr:List Value) (vN vA:Value) (rows:List (List Int)),i=.int .i64 k∧k≤m∧m≤40∧kk≤k+1∧(k=0∧kk=0∨0<k∧kk=k+1)∧Hid (list.length=m)∧Hid (RawSt t list k rows)∧Hid (vs.length=m)∧Hid (vr.length=kk∧(outRows nL rows).length=kk∧(outAcc k).length=kk∧rows.length=k)∧RawMem #[.int .i64 t.sys.alphabet,.int .i64 t.sys.states,.slice ae t.sys.edges.length ce,.int .i64 t.prop.alphabet,.slice an t.prop.next.length cn,.slice aa t.prop.accept.length ca,.int .i64 t.alphabet] t.alphabet w base B4 (listP t.prop.next.length vL m vs list++outP vN vA kk vr (outRows nL rows) (outAcc k) ⟨3,1,.slice aZ nL cZ,nL,(letters t.alphabet).map (Value.int .i64)⟩) vN vA wr) (fun _ i _=>41-(intOf i).toNat)
  case atStart=>exact ⟨0,1,0,[closeM t startM],[_],[],_,_,[],rfl,by omega,by omega,by omega,.inl ⟨rfl,rfl⟩,Lib.hid rfl,HST0,Lib.hid rfl,Lib.hid ⟨rfl,rfl,rfl,rfl⟩,hM0⟩
  case round=>
   clear hM0 HST0
   obtain ⟨k,m,kk,list,vs,vr,vN,vA,rows,rfl,hkm,hm40,hkk,hkk2,HML,HST,HVS,HVR,hM⟩:=hrel
   obtain ⟨aL,cL,rfl⟩:=own_any' (Pool.hd hM.pool)
   obtain ⟨aN,cN,rfl⟩:=own_any' (Pool.hd hM.pool.right)
   obtain ⟨aA,cA,rfl⟩:=own_any' (Pool.hd2 hM.pool.right)
   by_cases hlt:k<m
   case neg=>
    obtain rfl:k=m:=by omega
    have HST1:RawSt t list list.length rows:=by rw [HML.out];exact HST.out
    obtain ⟨hcl,hfn,hfa⟩:=HST1.fin
    have hng:=HST1.few (by rw [HML.out];exact hm40)
    obtain ⟨q1,q2,q3,q4⟩:=HVR.out
    rw [HNL.out] at hfn
    rw [HML.out] at hfa
    have hEND:AutoOwn base wr (.agg #[.int .i64 t.alphabet,.slice aN kk cN,.slice aA kk cA]) (autoN (nxW t) t.alphabet Option.isSome (nodesR list)):=by
     refine Pool.auto (x:=autoN (nxW t) t.alphabet Option.isSome (nodesR list)) (vs:=vr) (vn:=.slice aN kk cN) (va:=.slice aA kk cA) (w:=wr) (base:=base) ?_ (by rw [hfn,q1,q2])
     rw [hfn,hfa,q2,q3]
     have h9:=hM.pool.right
     unfold outP at h9
     have h8:Pool base wr ((⟨96,1,.slice aN kk cN,kk,vr⟩ :: ⟨4,1,.slice aA kk cA,kk,(outAcc k).map Value.bool⟩ :: slRows 3 vr (outRows nL rows))++[⟨3,1,.slice aZ nL cZ,nL,(letters t.alphabet).map (Value.int .i64)⟩]):=h9
     exact h8.left
    have HFIN:=Lib.hid hEND
    have HCL:=Lib.hid hcl
    have HNG:=Lib.hid hng
    have HNS:Hid ((nodesR list).length≤41):=Lib.hid (by
     have h9:=congrArg List.length hfa
     simp only [autoN,List.length_map] at h9
     rw [h9,q3];omega)
    have gc0:=hM.b4.cell 0 rfl;have gc1:=hM.b4.cell 1 rfl;have gc2:=hM.b4.cell 2 rfl
    have b2:=hM.b2
    have he:=hM.ext
    have rc0:=b2.cell 0 rfl;have rf0:=b2.fr 0;have rc1:=b2.cell 1 rfl;have rf1:=b2.fr 1;have rc2:=b2.cell 2 rfl;have rf2:=b2.fr 2
    clear hEND hcl hng hfn hfa HST1 q1 q2 q3 q4
    go_wp2_with fail
    refine bodyPost_ret (v:=.tuple #[.agg #[.int .i64 t.alphabet,.slice aN kk cN,.slice aA kk cA],.bool true]) (by simp [results,Tryz.results122,go_sem,rc0,rc1,rc2,rf0,rf1,rf2]) rfl ?_
    refine ⟨(((he.setCell (p:=⟨(w.heap.size+1),0,none⟩) (by simp only [];omega) _).setCell (p:=⟨(w.heap.size+1),1,none⟩) (by simp only [];omega) _).setCell (p:=⟨(w.heap.size+1),2,none⟩) (by simp only [];omega) _),.inr ⟨_,_,rfl,HCL.out,HNS.out,HNG.out,?_⟩⟩
    exact (auto_store (auto_store (auto_store HFIN.out b2 (by decide) (by decide) (by decide) 0 _) (b2.set 0 _) (by decide) (by decide) (by decide) 1 _) ((b2.set 0 _).set 1 _) (by decide) (by decide) (by decide) 2 _).low hwbase
   obtain ⟨f,hf⟩:∃f,list[k]?=some f:=⟨_,List.getElem?_eq_getElem (by rw [HML.out];exact hlt)⟩
   have HROW0:=Lib.hid (RowSt.start HST.out hf)
   have hMW:=hM.add (Ext.alloc wr (.cells #[] 3)) ⟨3,1,.slice (some ⟨wr.heap.size,0,none⟩) 0 0,0,[]⟩ (b:=wr.heap.size) (Nat.le_refl _) (.inl rfl) ⟨by simp,.inr ⟨wr.heap.size,0,#[],rfl,Nat.le_refl _,Blk.new _ _ _,Nat.le_refl _,by unfold maxLen;omega,by simp,by simp⟩⟩
   clear hf
   go_wp2_with fail
   clear hM
   generalize wr.alloc (.cells #[] 3)=wl at hMW⊢
   generalize wr.heap.size=gW at hMW⊢
   go_loopw [6,8,9] (fun vL vR j wr=>∃(q m':Nat) (list':List Sets) (vs':List Value) (row:List Int),j=.int .i64 q∧q≤nL∧k<m'∧m'≤40+q∧Hid (list'.length=m')∧Hid (vs'.length=m')∧Hid (RowSt t list' k rows f q row)∧Hid (row.length=q)∧RawMem #[.int .i64 t.sys.alphabet,.int .i64 t.sys.states,.slice ae t.sys.edges.length ce,.int .i64 t.prop.alphabet,.slice an t.prop.next.length cn,.slice aa t.prop.accept.length ca,.int .i64 t.alphabet] t.alphabet w base B4 (⟨3,1,vR,q,row.map (Value.int .i64)⟩ :: (listP t.prop.next.length vL m' vs' list'++outP (.slice aN kk cN) (.slice aA kk cA) kk vr (outRows nL rows) (outAcc k) ⟨3,1,.slice aZ nL cZ,nL,(letters t.alphabet).map (Value.int .i64)⟩)) (.slice aN kk cN) (.slice aA kk cA) wr) (fun _ _ j _=>nL-(intOf j).toNat)
   case atStart=>exact ⟨0,m,list,vs,[],rfl,by omega,hlt,by omega,HML,HVS,HROW0,Lib.hid rfl,hMW⟩
   case round=>
    clear hMW HML HST HVS HROW0
    obtain ⟨q,m',list',vs',row,rfl,hq,hkm',hm',HML,HVS,HROW,HRL,hM⟩:=hrel
    obtain ⟨aW,cW,rfl⟩:=own_any' (Pool.hd hM.pool)
    obtain ⟨aL,cL,rfl⟩:=own_any' (Pool.hd2 hM.pool)
    by_cases hql:q<nL
    ·obtain ⟨l,hl⟩:∃l,(letters t.alphabet)[q]?=some l:=⟨_,List.getElem?_eq_getElem (by rw [HNL.out];exact hql)⟩
     obtain ⟨hbit,hl0,hl6,-⟩:=letters_mem _ _ _ ha63 hl
     obtain ⟨gk,capk,hvk,hsk⟩:=list_at hM.pool.tail hnP.1 HVS.out HML.out hkm' HROW.out.at'
     obtain ⟨gL',cL',e6,gs⟩:=own_at (Pool.hd2 hM.pool) (j:=k) (u:=.slice (some ⟨gk,0,none⟩) t.prop.next.length capk) hvk
     cases e6
     have hZ:wr.ownsRow base 3 1 (.slice aZ nL cZ) nL ((letters t.alphabet).map (Value.int .i64)):=hM.pool.own ⟨3,1,.slice aZ nL cZ,nL,(letters t.alphabet).map (Value.int .i64)⟩ (by unfold outP;simp)
     obtain ⟨gZ,cZ',e7,gz⟩:=own_at hZ (j:=q) (u:=.int .i64 l) (by rw [List.getElem?_map,hl];rfl)
     cases e7
     have hfW:=HROW.out.st.within f (List.mem_of_getElem? HROW.out.at')
     have HLQ:=Lib.hid hl
     have HCMX:=hM.ext
     have CM:=Lib.hid (fun w' (h:Ext wr w')=>l9Move_c _ t f l base gk capk w' (HV.out w' (HCMX.trans h)) HT.out HEL.out hfW hl0 hl6 (own_ext hsk h))
     obtain ⟨gs2,hgs2⟩:∃g,closeM t (moveM t f l)=g:=⟨_,rfl⟩
     have HGS:Hid (afterM t f l=gs2):=Lib.hid hgs2
     have HGW:Hid (Within t gs2):=Lib.hid (by rw [←hgs2];exact HAW.out f hfW l)
     rw [hgs2] at CM
     have hkm2:(k:Int)<(m':Int):=by omega
     have hql2:(q:Int)<(nL:Int):=by omega
     have D0:=fun d os=>cell_regrown (hM.b1.cell 0 rfl) d os;have D1:=fun d os=>cell_regrown (hM.b1.cell 1 rfl) d os;have D2:=fun d os=>cell_regrown (hM.b1.cell 2 rfl) d os;have D3:=fun d os=>cell_regrown (hM.b1.cell 3 rfl) d os;have D4:=fun d os=>cell_regrown (hM.b1.cell 4 rfl) d os;have D5:=fun d os=>cell_regrown (hM.b1.cell 5 rfl) d os;have D6:=fun d os=>cell_regrown (hM.b1.cell 6 rfl) d os
     have D7:=fun d os=>cell_regrown gs d os
     have D8:=fun d os=>cell_regrown gz d os
     clear hl hbit hvk hsk gs hZ gz hfW hgs2 HCMX
     go_wp2_with fail
     obtain ⟨Kc,HKc⟩:∃Kc:FuncId→Array Value→World→Value→World→Prop,Hid (Kc=fun f args w0 v w'=>SetsEnd t.prop.next.length w0 gs2 (.returned v) w'):=⟨_,rfl⟩
     refine wp_region_ext (Kc:=Kc) 11 (by kernel_rfl) (by kernel_rfl) ?_
     simp only [List.take_succ_cons,List.take_zero]
     repeat (refine WalkE.pure rfl (fun K hK=>?_);simp only [PureDo];go_simp;refine hK _ ?_;clear hK K)
     refine WalkE.step (fun K hK wd hwd hdd=>?_)
     simp only [OpDo,OpSafe,OpOut]
     go_simp
     refine ⟨(CM.out _ ((Ext.drew _).trans hwd)).mono ?_,?_⟩
     ·rintro e w' he'
      obtain ⟨gg,cg,rfl,hx'⟩:=he'
      exact ⟨_,rfl,by rw [HKc.out];exact ⟨gg,cg,rfl,hx'⟩⟩
     intro u4 wx hk4
     rw [HKc.out] at hk4
     obtain ⟨gg,cg,e4,hk1,hk2⟩:=hk4
     injection e4 with e4
     subst e4
     refine ⟨hk1,hK _ _ ?_⟩
     clear hK K hdd
     repeat (refine WalkE.pure rfl (fun K hK=>?_);simp only [PureDo];go_simp;refine hK _ ?_;clear hK K)
     refine WalkE.nil (fun wn hwn hmn=>?_)
     simp only [List.drop_succ_cons,List.drop_zero,List.drop_nil]
     have x0:Ext wr wn:=(Ext.drew _).trans hwn
     have hds:wr.heap.size≤wd.heap.size:=((Ext.drew _).trans hwd).size
     have hsg:wn.ownsRow wd.heap.size 3 1 (.slice (some ⟨gg,0,none⟩) t.prop.next.length cg) t.prop.next.length ((setsL t.prop.next.length gs2).map (Value.int .i64)):=own_ext hk2 (hmn 9 (by omega))
     have hMG:=hM.add x0 ⟨3,1,.slice (some ⟨gg,0,none⟩) t.prop.next.length cg,t.prop.next.length,(setsL t.prop.next.length gs2).map (Value.int .i64)⟩ (b:=wd.heap.size) hds (.inl rfl) hsg
     clear hmn HKc D0 D1 D2 D3 D4 D5 D6 D7 D8 hwn hwd hk2 hk1 hM hds hsg x0 CM
     have cc0:=hMG.b1.cell 0 rfl;have cc1:=hMG.b1.cell 1 rfl;have cc2:=hMG.b1.cell 2 rfl;have cc3:=hMG.b1.cell 3 rfl;have cc4:=hMG.b1.cell 4 rfl;have cc5:=hMG.b1.cell 5 rfl;have cc6:=hMG.b1.cell 6 rfl
     obtain ⟨bd,hbd⟩:∃bd,badM t gs2=bd:=⟨_,rfl⟩
     have CB:=Lib.hid (by
      have:=l9Bad_c _ t gs2 base gg cg wn (HV.out wn hMG.ext) HT.out HGW.out (Pool.hd hMG.pool)
      rw [hbd] at this;exact this:Calls Tryz.prog 207 #[(.agg #[.int .i64 t.sys.alphabet,.int .i64 t.sys.states,.slice ae t.sys.edges.length ce,.int .i64 t.prop.alphabet,.slice an t.prop.next.length cn,.slice aa t.prop.accept.length ca,.int .i64 t.alphabet]),.slice (some ⟨gg,0,none⟩) t.prop.next.length cg] wn (Grows (.bool bd) wn))
     have HBD:=Lib.hid hbd
     clear hbd
     go_wp2_with fail
     refine CB.out.mono ?_
     rintro e w5 ⟨rfl,he5⟩
     have hM5:=hMG.mono he5
     clear CB hMG he5 cc0 cc1 cc2 cc3 cc4 cc5 cc6
     have hq32:q≤4294967296:=by omega
     cases bd with
     | true=>
      have hNX:nxW t (some f) l=none:=by rw [nxW_some_r,HGS.out,HBD.out];rfl
      have hst:=HROW.out.step HLQ.out (by rw [hNX];trivial)
      rw [hNX] at hst
      have HST2:Hid (RowSt t list' k rows f (q+1) (row++[(1:Int)])):=Lib.hid hst
      have hM6:=hM5.tl
      have hPP:=hM6.pool
      have hsz:=hM6.size
      clear hM5 hst hNX
      go_wp2_with (at_builtin;refine appP (news:=[Value.int .i64 (1:Int)]) rfl rfl Tryz.underlying96 infoInt rfl (by decide) hPP rfl rfl rfl (by simp [Value.oneCell']) hq32 (by decide) hsz ?_;intro v1 w6 hP1 hg1 hb1)
      exact ⟨⟨q+1,m',list',vs',_,by go_num,by omega,hkm',by omega,HML,HVS,HST2,Lib.hid (by rw [List.length_append,HRL.out];rfl),by rw [List.map_append];exact hM6.grown hP1 hg1 hb1 hwbase⟩,by simp [intOf];omega⟩
     | false=>
      have hNX:nxW t (some f) l=some gs2:=by rw [nxW_some_r,HGS.out,HBD.out];rfl
      have HNX:=Lib.hid hNX
      have hlw:=HROW.out.st.within
      have hiv:=list_own hM5.pool.tail.tail HVS.out HML.out
      have hxs:IntsV w5 (.slice (some ⟨gg,0,none⟩) t.prop.next.length cg) (setsL t.prop.next.length gs2):=own_ints (Pool.hd hM5.pool) (setsL_len _ _)
      have CF:=Lib.hid (fun w' (h:Ext w5 w')=>(by
       have:=l9Find_s _ _ (list'.map (setsL t.prop.next.length)) (setsL t.prop.next.length gs2) w' (SlV_ext hiv h) (hxs.mono h) (by rw [List.length_map,HML.out];omega) (by rw [setsL_len];omega) (fun r hr=>by obtain ⟨y,-,rfl⟩:=List.mem_map.1 hr;rw [setsL_len,setsL_len])
       rw [find_sets hlw HGW.out] at this
       exact this:Calls Tryz.prog 210 #[.slice (some ⟨gL',0,none⟩) m' cL,.slice (some ⟨gg,0,none⟩) t.prop.next.length cg] w' (Grows (.int .i64 (if gs2∈list' then (idxD list' gs2:Int) else -1)) w')))
      clear hiv hxs hlw hNX
      by_cases hmem:gs2∈list'
      ·obtain ⟨ix,hix⟩:∃ix,idxD list' gs2=ix:=⟨_,rfl⟩
       have hixm:ix<m':=by rw [←hix,←HML.out];exact idxD_lt hmem
       rw [if_pos hmem,hix] at CF
       have hst:=HROW.out.step HLQ.out (by rw [HNX.out];exact hmem)
       rw [HNX.out] at hst
       have hIR:idxR list' (some gs2)=if ix=0 then 0 else ix+1:=by rw [←hix];rfl
       have HIR:=Lib.hid hIR
       have HST2:=Lib.hid hst
       have hge:¬(ix:Int)<0:=by omega
       clear hst hmem hix hIR
       go_wp2_with fail
       refine (CF.out _ (Ext.refl _)).mono ?_
       rintro e w6 ⟨rfl,he6⟩
       go_wp2_with fail
       refine (CF.out _ he6).mono ?_
       rintro e w7 ⟨rfl,he7⟩
       have hM6:=(hM5.mono (he6.trans he7)).tl
       have hPP:=hM6.pool
       have hsz:=hM6.size
       clear hM5 CF he6 he7
       by_cases hix0:ix=0
       ·subst hix0
        go_wp2_with (at_builtin;refine appP (news:=[Value.int .i64 (0:Int)]) rfl rfl Tryz.underlying96 infoInt rfl (by decide) hPP rfl rfl rfl (by simp [Value.oneCell']) hq32 (by decide) hsz ?_;intro v1 w6 hP1 hg1 hb1)
        refine ⟨⟨q+1,m',list',vs',_,by go_num,by omega,hkm',by omega,HML,HVS,HST2,Lib.hid (by rw [List.length_append,HRL.out];rfl),?_⟩,by simp [intOf];omega⟩
        rw [List.map_append,HIR.out]
        exact hM6.grown hP1 hg1 hb1 hwbase
       ·have hpos:(0:Int)<(ix:Int):=by omega
        go_wp2_with (at_builtin;refine appP (news:=[Value.int .i64 ((ix+1:Nat):Int)]) rfl rfl Tryz.underlying96 infoInt rfl (by decide) hPP rfl rfl rfl (by simp [Value.oneCell']) hq32 (by decide) hsz ?_;intro v1 w6 hP1 hg1 hb1)
        refine ⟨⟨q+1,m',list',vs',_,by go_num,by omega,hkm',by omega,HML,HVS,HST2,Lib.hid (by rw [List.length_append,HRL.out];rfl),?_⟩,by simp [intOf];omega⟩
        rw [List.map_append,HIR.out,if_neg hix0]
        exact hM6.grown hP1 hg1 hb1 hwbase
      ·rw [if_neg hmem] at CF
       have hrch:=HROW.out.reach_next (List.mem_of_getElem? HLQ.out)
       rw [HNX.out] at hrch
       have hgr:=HROW.out.grow hmem HBD.out HGW.out hrch
       have hst:=hgr.step HLQ.out (by rw [HNX.out];show gs2∈list'++[gs2];simp)
       rw [HNX.out] at hst
       have hidx:idxD (list'++[gs2]) gs2=m':=by rw [idxD_new hmem,HML.out]
       have hIR:idxR (list'++[gs2]) (some gs2)=m'+1:=by
        show (if idxD (list'++[gs2]) gs2=0 then 0 else idxD (list'++[gs2]) gs2+1)=_
        rw [hidx,if_neg (by omega)]
       rw [hIR] at hst
       have HST2:=Lib.hid hst
       have HIDX:=Lib.hid hidx
       have HML2:Hid ((list'++[gs2]).length=m'+1):=Lib.hid (by rw [List.length_append,HML.out];rfl)
       have HVS2:Hid ((vs'++[Value.slice (some ⟨gg,0,none⟩) t.prop.next.length cg]).length=m'+1):=Lib.hid (by rw [List.length_append,HVS.out];rfl)
       have HIN2:Hid (gs2∈list'++[gs2]):=Lib.hid (by simp)
       have HW2:Hid (∀x∈list'++[gs2],Within t x):=Lib.hid HST2.out.st.within
       clear hst hgr hrch hidx hIR hmem
       go_wp2_with fail
       refine (CF.out _ (Ext.refl _)).mono ?_
       rintro e w6 ⟨rfl,he6⟩
       have hM6:=hM5.mono he6
       have hM7:=hM6.perm (perm_l _ _ _ _ _)
       have hPP:=hM7.pool
       have hsz:=hM7.size
       have hm32:m'≤4294967296:=by omega
       clear hM5 hM6 CF he6
       go_wp2_with (at_builtin;refine appP (news:=[Value.slice (some ⟨gg,0,none⟩) t.prop.next.length cg]) rfl rfl Tryz.underlying28 infoInts rfl (by decide) hPP rfl rfl rfl (by simp [Value.oneCell']) hm32 (by decide) hsz ?_;intro v1 w6 hP1 hg1 hb1;obtain ⟨aL2,cL2,rfl⟩:=own_any' (Pool.hd hP1))
       have hM8:=hM7.grown hP1 hg1 hb1 hwbase
       have hM9:RawMem #[.int .i64 t.sys.alphabet,.int .i64 t.sys.states,.slice ae t.sys.edges.length ce,.int .i64 t.prop.alphabet,.slice an t.prop.next.length cn,.slice aa t.prop.accept.length ca,.int .i64 t.alphabet] t.alphabet w base B4 (⟨3,1,.slice aW q cW,q,row.map (Value.int .i64)⟩ :: (listP t.prop.next.length (.slice aL2 (m'+1) cL2) (m'+1) (vs'++[.slice (some ⟨gg,0,none⟩) t.prop.next.length cg]) (list'++[gs2])++outP (.slice aN kk cN) (.slice aA kk cA) kk vr (outRows nL rows) (outAcc k) ⟨3,1,.slice (some ⟨gZ,0,none⟩) nL cZ,nL,(letters t.alphabet).map (Value.int .i64)⟩)) (.slice aN kk cN) (.slice aA kk cA) w6:=by
        have h9:=hM8.perm (List.Perm.swap _ _ _)
        unfold listP
        rw [List.map_append,List.map_singleton,slRows_push (by rw [List.length_map,HVS.out,HML.out])]
        unfold slInts
        rw [setsL_len]
        exact h9
       have hiv:=list_own hM9.pool.tail HVS2.out HML2.out
       have hxs:IntsV w6 (.slice (some ⟨gg,0,none⟩) t.prop.next.length cg) (setsL t.prop.next.length gs2):=by
        refine own_ints (base:=base) (e:=3) (n:=t.prop.next.length) (hM8.pool.own ⟨3,1,.slice (some ⟨gg,0,none⟩) t.prop.next.length cg,t.prop.next.length,(setsL t.prop.next.length gs2).map (Value.int .i64)⟩ ?_) (setsL_len _ _)
        simp
       have CF2:=Lib.hid (by
        have:=l9Find_s _ _ ((list'++[gs2]).map (setsL t.prop.next.length)) (setsL t.prop.next.length gs2) w6 hiv hxs (by rw [List.length_map,HML2.out];omega) (by rw [setsL_len];omega) (fun r hr=>by obtain ⟨y,-,rfl⟩:=List.mem_map.1 hr;rw [setsL_len,setsL_len])
        rw [find_sets HW2.out HGW.out,if_pos HIN2.out,HIDX.out] at this
        exact this:Calls Tryz.prog 210 #[.slice aL2 (m'+1) cL2,.slice (some ⟨gg,0,none⟩) t.prop.next.length cg] w6 (Grows (.int .i64 (m':Int)) w6))
       clear hM7 hM8 hPP hP1 hg1 hb1 hiv hxs
       refine CF2.out.mono ?_
       rintro e w7 ⟨rfl,he7⟩
       have hM6:=hM9.mono he7
       have hPP:=hM6.pool
       have hsz:=hM6.size
       have hpos:(0:Int)<(m':Int):=by omega
       clear hM9 CF2 he7
       go_wp2_with (at_builtin;refine appP (news:=[Value.int .i64 ((m'+1:Nat):Int)]) rfl rfl Tryz.underlying96 infoInt rfl (by decide) hPP rfl rfl rfl (by simp [Value.oneCell']) hq32 (by decide) hsz ?_;intro v1 w6 hP1 hg1 hb1)
       refine ⟨⟨q+1,m'+1,list'++[gs2],_,_,by go_num,by omega,by omega,by omega,HML2,HVS2,HST2,Lib.hid (by rw [List.length_append,HRL.out];rfl),?_⟩,by simp [intOf];omega⟩
       rw [List.map_append]
       exact hM6.grown hP1 hg1 hb1 hwbase
    ·have hqe:q=nL:=by omega
     have h9:=HROW.out
     rw [hqe,←HNL.out] at h9
     obtain ⟨hst',-⟩:=h9.done
     have HST2:=Lib.hid hst'
     obtain ⟨q1,q2,q3,q4⟩:=HVR.out
     clear h9 hst' hqe
     by_cases h40:40<m'
     ·have HG:Hid (TooGood t):=Lib.hid (HST2.out.good (by rw [HML.out];exact h40))
      have h40':(40:Int)<(m':Int):=by omega
      have h41:¬(q:Int)<(nL:Int):=by omega
      have b2:=hM.b2
      have he:=hM.ext
      have rc0:=b2.cell 0 rfl;have rf0:=b2.fr 0;have rc1:=b2.cell 1 rfl;have rf1:=b2.fr 1;have rc2:=b2.cell 2 rfl;have rf2:=b2.fr 2
      clear q1 q2 q3 q4
      go_wp2_with fail
      refine bodyPost_ret (v:=.tuple #[.agg #[.int .i64 0,.slice none 0 0,.slice none 0 0],.bool false]) (by simp [results,Tryz.results122,go_sem,rc0,rc1,rc2,rf0,rf1,rf2]) rfl ?_
      exact ⟨(((he.setCell (p:=⟨(w.heap.size+1),0,none⟩) (by simp only [];omega) _).setCell (p:=⟨(w.heap.size+1),1,none⟩) (by simp only [];omega) _).setCell (p:=⟨(w.heap.size+1),2,none⟩) (by simp only [];omega) _),.inl ⟨rfl,HG.out⟩⟩
     ·have h40':¬(40:Int)<(m':Int):=by omega
      have h41:¬(q:Int)<(nL:Int):=by omega
      have hM1:=RawMem.perm hM (show List.Perm _ _ from perm_r1 ⟨96,1,.slice aN kk cN,kk,vr⟩ ⟨4,1,.slice aA kk cA,kk,(outAcc k).map Value.bool⟩ ⟨3,1,.slice aW q cW,q,row.map (Value.int .i64)⟩ ⟨3,1,.slice aZ nL cZ,nL,(letters t.alphabet).map (Value.int .i64)⟩ (listP t.prop.next.length (.slice aL m' cL) m' vs' list') (slRows 3 vr (outRows nL rows)))
      have hPP:=hM1.pool
      have hsz:=hM1.size
      have d1:=hM1.b4.cell 1 rfl
      have hk32:kk≤4294967296:=by omega
      have HQ4:=Lib.hid q4
      have HQ123:=Lib.hid (And.intro q1 (And.intro q2 q3))
      clear hM q1 q2 q3 q4
      go_upto_region 27 with (at_builtin;refine appP (news:=[Value.slice aW q cW]) rfl rfl Tryz.underlying28 infoInts rfl (by decide) hPP rfl rfl rfl (by simp [Value.oneCell']) hk32 (by decide) hsz ?_;intro v1 w6 hP1 hg1 hb1;obtain ⟨a1,c1,rfl⟩:=own_any' (Pool.hd hP1);have b46:=(hM1.grown hP1 hg1 hb1 hwbase).b4;have g2:=b46.cell 1 rfl;have f2:=b46.fr 1)
      have hM2:=(hM1.grown hP1 hg1 hb1 hwbase).put1 l2 (.slice a1 (kk+1) c1)
      clear hM1 hPP hP1 hg1 hb1 b46 g2 f2 hsz d1
      generalize w6.setCell ⟨B4,1,none⟩ (.slice a1 (kk+1) c1)=w7 at hM2⊢
      have hM3:=hM2.perm (perm_r2 _ _ _ _ _)
      have hPP:=hM3.pool
      have hsz:=hM3.size
      have d2:=hM3.b4.cell 2 rfl
      go_upto_region 28 with (at_builtin;refine appP (news:=[Value.bool true]) rfl rfl Tryz.underlying29 infoBool rfl (by decide) hPP rfl rfl rfl (by simp [Value.oneCell']) hk32 (by decide) hsz ?_;intro v1 w6 hP1 hg1 hb1;obtain ⟨a2,c2,rfl⟩:=own_any' (Pool.hd hP1);have b46:=(hM3.grown hP1 hg1 hb1 hwbase).b4;have g2:=b46.cell 2 rfl;have f2:=b46.fr 2)
      have hM4:=(hM3.grown hP1 hg1 hb1 hwbase).put2 l2 (.slice a2 (kk+1) c2)
      clear hM2 hM3 hPP hP1 hg1 hb1 b46 g2 f2 hsz d2
      generalize w6.setCell ⟨B4,2,none⟩ (.slice a2 (kk+1) c2)=w8 at hM4⊢
      rcases hkk2 with ⟨hk0,hkk0⟩ | ⟨hkp,hkk1⟩
      ·have hk0':((k:Int)==0)=true:=by simp [hk0]
       subst hk0
       subst hkk0
       obtain ⟨q1,q2,q3⟩:=HQ123.out
       obtain rfl:vr=[]:=List.eq_nil_of_length_eq_zero q1
       obtain rfl:rows=[]:=List.eq_nil_of_length_eq_zero HQ4.out
       clear q1 q2 q3
       have D0:=fun d os=>cell_regrown (hM4.b4.cell 1 rfl) d os
       have D1:=fun d os=>cell_regrown (hM4.b1.cell 6 rfl) d os
       go_wp2_with fail
       obtain ⟨Kc,HKc⟩:∃Kc:FuncId→Array Value→World→Value→World→Prop,Hid (Kc=fun f args w0 v w'=>Ext w0 w'∧IntsOwn 3 w0.heap.size w' v (List.replicate nL 1)):=⟨_,rfl⟩
       refine wp_region_ext (Kc:=Kc) 6 (by kernel_rfl) (by kernel_rfl) ?_
       simp only [List.take_succ_cons,List.take_zero]
       repeat (refine WalkE.pure rfl (fun K hK=>?_);simp only [PureDo];go_simp;refine hK _ ?_;clear hK K)
       refine WalkE.step (fun K hK wd hwd hdd=>?_)
       simp only [OpDo,OpSafe,OpOut]
       go_simp
       refine ⟨(l9Row_s _ 1 _ ha0 ha63).mono ?_,?_⟩
       ·rintro e w' ⟨v,rfl,he',ho⟩
        exact ⟨v,rfl,by rw [HKc.out,←HNL.out];exact ⟨he',ho⟩⟩
       intro u4 wx hk4
       rw [HKc.out] at hk4
       obtain ⟨hk1,hk2⟩:=hk4
       refine ⟨hk1,hK _ _ ?_⟩
       obtain ⟨aR,cR,e9⟩:=hk2.shape
       rw [List.length_replicate] at e9
       subst e9
       have hk2:wx.ownsRow wd.heap.size 3 1 (.slice aR nL cR) nL ((List.replicate nL (1:Int)).map (Value.int .i64)):=by have h9:=hk2;unfold IntsOwn at h9;rwa [List.length_replicate] at h9
       clear hK K hdd
       refine WalkE.step (fun K hK we hwe hde=>?_)
       simp only [OpDo,OpSafe,OpOut]
       go_simp
       refine ⟨Ext.alloc _ _,hK _ _ ?_⟩
       clear hK K hde
       refine WalkE.nil (fun wn hwn hmn=>?_)
       simp only [List.drop_succ_cons,List.drop_zero,List.drop_nil]
       have x0:Ext w8 wn:=(Ext.drew _).trans hwn
       have hrow:=own_ext hk2 (hmn 4 (by omega))
       have hbn:Blk wn we.heap.size #[.slice aR nL cR] 96:=(Blk.new we _ _).ext (hmn 5 (by omega))
       have hcell:∀(j:Nat) u,[Value.slice aR nL cR][j]?=some u→wn.cell? ((⟨we.heap.size,0,none⟩:Addr).add j)=some u:=fun j u hu=>by
        rw [add_none,Nat.zero_add]
        exact hbn.cell j (by simpa using hu)
       have hds:w8.heap.size≤wd.heap.size:=((Ext.drew _).trans hwd).size
       have hM5:=(hM4.add x0 ⟨3,1,.slice aR nL cR,nL,(List.replicate nL (1:Int)).map (Value.int .i64)⟩ (b:=wd.heap.size) hds (.inl rfl) hrow).perm (perm_r4 _ _ _ _ _)
       have hsz:=hM5.size
       have hPP:=hM5.pool
       clear hmn HKc D0 D1 hwn hwd hk2 hbn x0 hwe hrow hk1 hM4 hds
       generalize we.heap.size=gN at hcell⊢
       go_upto_region 30 with (at_builtin;refine appPN (news:=[Value.slice aR nL cR]) rfl rfl Tryz.underlying28 infoInts rfl (by decide) hPP rfl rfl (by simp) hcell (by simp [Value.oneCell']) (by decide) (by decide) hsz ?_;intro v1 w6 hP1 hg1 hb1;obtain ⟨a3,c3,rfl⟩:=own_any' (Pool.hd hP1);have b46:=(hM5.grown hP1 hg1 hb1 hwbase).b4;have g2:=b46.cell 1 rfl;have f2:=b46.fr 1)
       have hM6:=(hM5.grown hP1 hg1 hb1 hwbase).put1 l2 (.slice a3 (0+1+1) c3)
       clear hM5 hPP hP1 hg1 hb1 b46 g2 f2 hsz hcell
       generalize w6.setCell ⟨B4,1,none⟩ (.slice a3 (0+1+1) c3)=w9 at hM6⊢
       have hM7:=hM6.perm (perm_r5 _ _ _ _ _)
       have hPP:=hM7.pool
       have hsz:=hM7.size
       have d2:=hM7.b4.cell 2 rfl
       go_wp2_with (at_builtin;refine appP (news:=[Value.bool false]) rfl rfl Tryz.underlying29 infoBool rfl (by decide) hPP rfl rfl rfl (by simp [Value.oneCell']) (by decide) (by decide) hsz ?_;intro v1 w6 hP1 hg1 hb1;obtain ⟨a4,c4,rfl⟩:=own_any' (Pool.hd hP1);have b46:=(hM7.grown hP1 hg1 hb1 hwbase).b4;have g2:=b46.cell 2 rfl;have f2:=b46.fr 2)
       have hM8:=(hM7.grown hP1 hg1 hb1 hwbase).put2 l2 (.slice a4 (0+1+1) c4)
       refine ⟨⟨1,m',2,list',vs',[.slice aW q cW,.slice aR nL cR],.slice a3 (0+1+1) c3,.slice a4 (0+1+1) c4,[row],by go_num,by omega,by omega,by omega,.inr ⟨by omega,by omega⟩,HML,HST2,HVS,Lib.hid ⟨rfl,rfl,rfl,rfl⟩,?_⟩,by simp [intOf]⟩
       have h9:=hM8.perm (perm_r6 _ _ _ _ _ _)
       have e3:slRows 3 [.slice aW q cW,.slice aR nL cR] (outRows nL [row])=[⟨3,1,.slice aW q cW,q,row.map (Value.int .i64)⟩]++[⟨3,1,.slice aR nL cR,nL,(List.replicate nL (1:Int)).map (Value.int .i64)⟩]:=by
        show [slInts _ _ _,slInts _ _ _]=_
        unfold slInts
        rw [HRL.out,List.length_replicate];rfl
       unfold outP
       rw [e3]
       exact h9
      ·have hk0':((k:Int)==0)=false:=by simp;omega
       obtain ⟨q1,q2,q3⟩:=HQ123.out
       have hrne:rows≠[]:=fun e=>by
        have h9:=HQ4.out
        rw [e] at h9
        simp at h9;omega
       have e1:=outRows_push (L:=nL) hrne row
       have e2:=outAcc_push hkp
       have HFIN:Hid (RawMem #[.int .i64 t.sys.alphabet,.int .i64 t.sys.states,.slice ae t.sys.edges.length ce,.int .i64 t.prop.alphabet,.slice an t.prop.next.length cn,.slice aa t.prop.accept.length ca,.int .i64 t.alphabet] t.alphabet w base B4 (listP t.prop.next.length (.slice aL m' cL) m' vs' list'++outP (.slice a1 (kk+1) c1) (.slice a2 (kk+1) c2) (kk+1) (vr++[.slice aW q cW]) (outRows nL (rows++[row])) (outAcc (k+1)) ⟨3,1,.slice aZ nL cZ,nL,(letters t.alphabet).map (Value.int .i64)⟩) (.slice a1 (kk+1) c1) (.slice a2 (kk+1) c2) w8):=Lib.hid (by
        have h9:=hM4.perm (perm_r3 _ _ _ _ _ _)
        unfold outP
        rw [e1,e2,List.map_append,slRows_push (by rw [q1,q2])]
        unfold slInts
        rw [HRL.out]
        exact h9)
       have HV2:Hid ((vr++[Value.slice aW q cW]).length=kk+1∧(outRows nL (rows++[row])).length=kk+1∧(outAcc (k+1)).length=kk+1∧(rows++[row]).length=k+1):=Lib.hid ⟨by rw [List.length_append,q1];rfl,by rw [e1,List.length_append,q2];rfl,by rw [e2,List.length_append,q3];rfl,by rw [List.length_append,HQ4.out];rfl⟩
       clear e1 e2 hrne q1 q2 q3 hM4
       go_wp2_with fail
       exact ⟨⟨k+1,m',kk+1,list',vs',_,_,_,rows++[row],by go_num,by omega,by omega,by omega,.inr ⟨by omega,by omega⟩,HML,HST2,HVS,HV2,HFIN.out⟩,by simp [intOf];omega⟩
end Go.Proofs.YtadplnbadfnlfaaGreatDoor
namespace Go.Proofs.YtadplnbadfnlfaaGreatDoor
open Go Go.RowKit
set_option linter.unusedVariables false
set_option linter.unusedSimpArgs false
set_option maxHeartbeats 4000000
set_option maxRecDepth 100000
theorem WeakestAssumption_s (v:Value) (t:Task) (w:World) (hV:TaskV w v t) (hel:t.sys.edges.length≤1048576) :
  Calls Tryz.prog 47 #[v] w (WeakEnd t w):=by
 obtain ⟨ve,vn,va,rfl,h1,h2,h3⟩:=hV
 obtain ⟨ae,ce,rfl,-,-⟩:=h1.open
 obtain ⟨an,cn,rfl,-,-⟩:=h2.open
 obtain ⟨aa,ca,rfl,-,-⟩:=h3.open
 have HV:=Lib.hid (show ∀w',Ext w w'→TaskV w' (.agg #[.int .i64 t.sys.alphabet,.int .i64 t.sys.states,.slice ae t.sys.edges.length ce,.int .i64 t.prop.alphabet,.slice an t.prop.next.length cn,.slice aa t.prop.accept.length ca,.int .i64 t.alphabet]) t from fun w' h=>⟨_,_,_,rfl,h1.mono h,h2.mono h,h3.mono h⟩)
 have HEL:=Lib.hid hel
 obtain ⟨b0,hb0⟩:∃b0,taskValid t=b0:=⟨_,rfl⟩
 have HB:=Lib.hid hb0
 have HTV:=Lib.hid (fun w' (h:Ext w w')=>(by have:=TaskValid_s _ t w' (HV.out w' h);rwa [hb0] at this:Calls Tryz.prog 121 #[.agg #[.int .i64 t.sys.alphabet,.int .i64 t.sys.states,.slice ae t.sys.edges.length ce,.int .i64 t.prop.alphabet,.slice an t.prop.next.length cn,.slice aa t.prop.accept.length ca,.int .i64 t.alphabet]] w' (Grows (.bool b0) w')))
 clear h1 h2 h3 hel hb0
 obtain ⟨wo,hwo⟩:∃wo,wo=(w.alloc (.cells #[.int .i64 t.sys.alphabet,.int .i64 t.sys.states,.slice ae t.sys.edges.length ce,.int .i64 t.prop.alphabet,.slice an t.prop.next.length cn,.slice aa t.prop.accept.length ca,.int .i64 t.alphabet] 57)).alloc (.cells #[.int .i64 0,.slice none 0 0,.slice none 0 0] 31):=⟨_,rfl⟩
 have he:Ext w wo:=by rw [hwo];exact (Ext.alloc _ _).trans (Ext.alloc _ _)
 have b1:Blk wo w.heap.size #[.int .i64 t.sys.alphabet,.int .i64 t.sys.states,.slice ae t.sys.edges.length ce,.int .i64 t.prop.alphabet,.slice an t.prop.next.length cn,.slice aa t.prop.accept.length ca,.int .i64 t.alphabet] 57:=by rw [hwo];exact Ext.blk (Ext.alloc _ _)
 have b2:Blk wo (w.heap.size+1) #[.int .i64 0,.slice none 0 0,.slice none 0 0] 31:=by rw [hwo];exact Ext.blk1 (Ext.refl _)
 go_enter Tryz.func47,Tryz.ntmps47
 go_upto_region 1 with fail
 rw [←hwo]
 clear hwo
 have cc0:=b1.cell 0 rfl;have cc1:=b1.cell 1 rfl;have cc2:=b1.cell 2 rfl;have cc3:=b1.cell 3 rfl;have cc4:=b1.cell 4 rfl;have cc5:=b1.cell 5 rfl;have cc6:=b1.cell 6 rfl
 go_wp2_with fail
 refine (HTV.out _ he).mono ?_
 rintro e w1 ⟨rfl,he1⟩
 replace he:=he.trans he1
 replace b1:=b1.ext he1
 replace b2:=b2.ext he1
 clear cc0 cc1 cc2 cc3 cc4 cc5 cc6 he1
 cases b0 with
 | false=>
  have rc0:=b2.cell 0 rfl;have rf0:=b2.fr 0;have rc1:=b2.cell 1 rfl;have rf1:=b2.fr 1;have rc2:=b2.cell 2 rfl;have rf2:=b2.fr 2
  go_wp2_with fail
  refine bodyPost_ret (v:=.tuple #[.agg #[.int .i64 0,.slice none 0 0,.slice none 0 0],.bool false]) (by simp [results,Tryz.results47,go_sem,rc0,rc1,rc2,rf0,rf1,rf2]) rfl ?_
  exact ⟨none,.inl ⟨rfl,.inl HB.out⟩,(((he.setCell (p:=⟨(w.heap.size+1),0,none⟩) (by simp only [];omega) _).setCell (p:=⟨(w.heap.size+1),1,none⟩) (by simp only [];omega) _).setCell (p:=⟨(w.heap.size+1),2,none⟩) (by simp only [];omega) _),.inl ⟨rfl,rfl⟩⟩
 | true=>
  obtain ⟨hs,hp,hA⟩:=taskValid_facts HB.out
  obtain ⟨ha0,ha63⟩:=alpha_facts hA
  have cc0:=b1.cell 0 rfl;have cc1:=b1.cell 1 rfl;have cc2:=b1.cell 2 rfl;have cc3:=b1.cell 3 rfl;have cc4:=b1.cell 4 rfl;have cc5:=b1.cell 5 rfl;have cc6:=b1.cell 6 rfl
  clear hs hp hA
  go_wp2_with fail
  refine (l9Raw_s _ t _ (HV.out _ he) HB.out HEL.out).mono ?_
  rintro e w2 ⟨he2,hr⟩
  replace he:=he.trans he2
  replace b2:=b2.ext he2
  clear cc0 cc1 cc2 cc3 cc4 cc5 cc6 b1
  rcases hr with ⟨rfl,hg⟩ | ⟨v',ns,rfl,hcl,hns,hng,hO⟩
  ·have HW:Hid (WeakR t none):=Lib.hid (.inl ⟨rfl,.inr ⟨HB.out,.inl hg⟩⟩)
   clear hg
   go_upto_region 4 with fail
   have b2':=b2.ext (Ext.alloc w2 (.cells #[.int .i64 0,.slice none 0 0,.slice none 0 0] 31))
   have he':=he.trans (Ext.alloc w2 (.cells #[.int .i64 0,.slice none 0 0,.slice none 0 0] 31))
   generalize w2.alloc (.cells #[.int .i64 0,.slice none 0 0,.slice none 0 0] 31)=w3 at b2' he'⊢
   have rc0:=b2'.cell 0 rfl;have rf0:=b2'.fr 0;have rc1:=b2'.cell 1 rfl;have rf1:=b2'.fr 1;have rc2:=b2'.cell 2 rfl;have rf2:=b2'.fr 2
   go_wp2_with fail
   refine bodyPost_ret (v:=.tuple #[.agg #[.int .i64 0,.slice none 0 0,.slice none 0 0],.bool false]) (by simp [results,Tryz.results47,go_sem,rc0,rc1,rc2,rf0,rf1,rf2]) rfl ?_
   exact ⟨none,HW.out,(((he'.setCell (p:=⟨(w.heap.size+1),0,none⟩) (by simp only [];omega) _).setCell (p:=⟨(w.heap.size+1),1,none⟩) (by simp only [];omega) _).setCell (p:=⟨(w.heap.size+1),2,none⟩) (by simp only [];omega) _),.inl ⟨rfl,rfl⟩⟩
  ·obtain ⟨A,hA⟩:∃A,autoN (nxW t) t.alphabet Option.isSome ns=A:=⟨_,rfl⟩
   have hres:res A 0=lngW t:=by rw [←hA];exact raw_res_c ha0 ha63 hcl
   have hfit:AutoFit A:=by rw [←hA];exact hcl.fit ha0 ha63 (by omega)
   have hlen:A.next.length≤100:=by rw [←hA];simp [autoN];omega
   have hal:A.alphabet=t.alphabet:=by rw [←hA];rfl
   rw [hA] at hO
   have HRES:=Lib.hid hres
   have HAL:=Lib.hid hal
   have HNG:=Lib.hid hng
   have HFIT:=Lib.hid hfit
   obtain ⟨vN,vA,rfl,hO'⟩:=hO
   obtain ⟨aN,cN,rfl⟩:=hO'.1.shape
   obtain ⟨aA,cA,rfl⟩:=hO'.2.shape
   have hN9:=hO'.1.intss
   have hA9:=hO'.2.bools
   have HAV:=Lib.hid (show ∀w',Ext w2 w'→AutoV w' (.agg #[.int .i64 A.alphabet,.slice aN A.next.length cN,.slice aA A.accept.length cA]) A from fun w' h=>⟨_,_,rfl,hN9.mono h,hA9.mono h⟩)
   clear hA hres hfit hal hng hcl hO' hN9 hA9
   go_upto_region 4 with fail
   obtain ⟨w3,hw3⟩:∃w3,w3=w2.alloc (.cells #[.int .i64 A.alphabet,.slice aN A.next.length cN,.slice aA A.accept.length cA] 31):=⟨_,rfl⟩
   have y3:Ext w2 w3:=by rw [hw3];exact Ext.alloc _ _
   have b4:Blk w3 w2.heap.size #[.int .i64 A.alphabet,.slice aN A.next.length cN,.slice aA A.accept.length cA] 31:=by rw [hw3];exact Blk.new _ _ _
   rw [←hw3]
   clear hw3
   have b23:=b2.ext y3
   have he3:=he.trans y3
   have gc0:=b4.cell 0 rfl;have gc1:=b4.cell 1 rfl;have gc2:=b4.cell 2 rfl
   clear b2
   go_wp2_with fail
   refine (l5Minimal_s _ A _ (HAV.out _ y3) HFIT.out hlen).mono ?_
   rintro e w7 ⟨v',B,rfl,he7,hB,hO⟩
   have hBm:IsMin (lngW t) t.alphabet B:=by rw [←HRES.out,←HAL.out];exact hB
   have HBM:=Lib.hid hBm
   obtain ⟨vN',vA',rfl,hO'⟩:=hO
   obtain ⟨aN',cN',rfl⟩:=hO'.1.shape
   obtain ⟨aA',cA',rfl⟩:=hO'.2.shape
   have hOW:AutoOwn w.heap.size w7 (.agg #[.int .i64 B.alphabet,.slice aN' B.next.length cN',.slice aA' B.accept.length cA']) B:=AutoOwn.low ⟨_,_,rfl,hO'⟩ he3.size
   have b27:=b23.ext he7
   have he8:=he3.trans he7
   clear gc0 gc1 gc2 hB hBm hO' b23 b4
   go_upto_region 7 with fail
   obtain ⟨w8,hw8⟩:∃w8,w8=w7.alloc (.cells #[.int .i64 B.alphabet,.slice aN' B.next.length cN',.slice aA' B.accept.length cA'] 31):=⟨_,rfl⟩
   have y8:Ext w7 w8:=by rw [hw8];exact Ext.alloc _ _
   have b9:Blk w8 w7.heap.size #[.int .i64 B.alphabet,.slice aN' B.next.length cN',.slice aA' B.accept.length cA'] 31:=by rw [hw8];exact Blk.new _ _ _
   rw [←hw8]
   clear hw8
   have b28:=b27.ext y8
   have hO8:=hOW.ext y8
   have hx8:=he8.trans y8
   clear y8 b27 hOW he8
   generalize w7.heap.size=p9 at b9⊢
   have gd0:=b9.cell 0 rfl;have gd1:=b9.cell 1 rfl;have gd2:=b9.cell 2 rfl
   have rc0:=b28.cell 0 rfl;have rf0:=b28.fr 0;have rc1:=b28.cell 1 rfl;have rf1:=b28.fr 1;have rc2:=b28.cell 2 rfl;have rf2:=b28.fr 2
   by_cases h12:B.next.length≤12
   ·have hl12:¬((12:Int)<(B.next.length:Int)):=by omega
    have HW:Hid (WeakR t (some B)):=Lib.hid (.inr ⟨B,rfl,HB.out,HNG.out,HBM.out,h12⟩)
    have HO8:=Lib.hid hO8
    clear h12 hO8
    go_wp2_with fail
    refine bodyPost_ret (v:=.tuple #[.agg #[.int .i64 B.alphabet,.slice aN' B.next.length cN',.slice aA' B.accept.length cA'],.bool true]) (by simp [results,Tryz.results47,go_sem,rc0,rc1,rc2,rf0,rf1,rf2]) rfl ?_
    refine ⟨some B,HW.out,(((hx8.setCell (p:=⟨(w.heap.size+1),0,none⟩) (by simp only [];omega) _).setCell (p:=⟨(w.heap.size+1),1,none⟩) (by simp only [];omega) _).setCell (p:=⟨(w.heap.size+1),2,none⟩) (by simp only [];omega) _),.inr ⟨B,_,rfl,rfl,?_⟩⟩
    exact auto_store (auto_store (auto_store HO8.out b28 (by decide) (by decide) (by decide) 0 _) (b28.set 0 _) (by decide) (by decide) (by decide) 1 _) ((b28.set 0 _).set 1 _) (by decide) (by decide) (by decide) 2 _
   ·have hl12:(12:Int)<(B.next.length:Int):=by omega
    have HW:Hid (WeakR t none):=Lib.hid (.inl ⟨rfl,.inr ⟨HB.out,.inr ⟨B,HBM.out,by omega⟩⟩⟩)
    clear h12 hO8
    go_wp2_with fail
    refine bodyPost_ret (v:=.tuple #[.agg #[.int .i64 0,.slice none 0 0,.slice none 0 0],.bool false]) (by simp [results,Tryz.results47,go_sem,rc0,rc1,rc2,rf0,rf1,rf2]) rfl ?_
    exact ⟨none,HW.out,(((hx8.setCell (p:=⟨(w.heap.size+1),0,none⟩) (by simp only [];omega) _).setCell (p:=⟨(w.heap.size+1),1,none⟩) (by simp only [];omega) _).setCell (p:=⟨(w.heap.size+1),2,none⟩) (by simp only [];omega) _),.inl ⟨rfl,rfl⟩⟩
set_option maxHeartbeats 1600000
open Classical in
noncomputable def weakOf (t:Task):Option Auto:=if h:∃r,WeakR t r then h.choose else none
theorem weakOf_eq {t:Task} {r:Option Auto} (h:WeakR t r):weakOf t=r:=by
 unfold weakOf
 rw [dif_pos ⟨r,h⟩]
 exact (Exists.choose_spec (⟨r,h⟩:∃r,WeakR t r)).unique h
theorem weakOf_some {t:Task} {B:Auto} (h:weakOf t=some B):taskValid t=true∧¬TooGood t∧IsMin (lngW t) t.alphabet B∧B.next.length≤12:=by
 unfold weakOf at h
 split at h
 ·rename_i hr
  have h1:=hr.choose_spec
  rw [h] at h1
  rcases h1 with ⟨e,-⟩ | ⟨C,e,h2⟩
  ·cases e
  ·cases e;exact h2
 ·cases h
def zeroA:Auto:=⟨0,[],[]⟩
theorem zero_own (base:Nat) (w:World):AutoOwn base w (.agg #[.int .i64 0,.slice none 0 0,.slice none 0 0]) zeroA:=
 Pool.auto (x:=zeroA) (vs:=[]) (((Pool.nil base w).addNil 4 1).addNil 96 1) rfl
theorem weak_det {t:Task} {w w':World} {e:Ending} (h:WeakEnd t w e w'):∃v',e=.returned (.tuple #[v',.bool (weakOf t).isSome])∧Ext w w'∧AutoOwn w.heap.size w' v' ((weakOf t).getD zeroA):=by
 obtain ⟨r,hW,he,hr⟩:=h
 rw [weakOf_eq hW]
 rcases hr with ⟨rfl,rfl⟩ | ⟨B,v',rfl,rfl,hO⟩
 ·exact ⟨_,rfl,he,zero_own _ _⟩
 ·exact ⟨_,rfl,he,hO⟩
def WeakDet (t:Task) (w:World) (e:Ending) (w':World):Prop:=∃v',e=.returned (.tuple #[v',.bool (weakOf t).isSome])∧Ext w w'∧AutoOwn w.heap.size w' v' ((weakOf t).getD zeroA)
theorem WeakestAssumption_cd (v:Value) (t:Task) (w:World) (hV:TaskV w v t) (hT:Deb w):Calls Tryz.prog 39 #[v] w (WeakDet t w):=
 (WeakestAssumption_c v t w hV hT).mono fun _ _ h=>weak_det h
theorem WeakestAssumption_sd (v:Value) (t:Task) (w:World) (hV:TaskV w v t) (hel:t.sys.edges.length≤1048576):Calls Tryz.prog 47 #[v] w (WeakDet t w):=
 (WeakestAssumption_s v t w hV hel).mono fun _ _ h=>weak_det h
theorem weak_acc {t:Task} {B:Auto} (h:weakOf t=some B):autoValid B=true∧B.alphabet=t.alphabet∧∀v,accepts B (run B 0 v)=true↔SafeV t (v.filter (bit t.alphabet)):=by
 obtain ⟨h1,-,h3,h4⟩:=weakOf_some h
 obtain ⟨vS,vP,hI⟩:=taskValid_facts h1
 obtain ⟨a0,a63⟩:=alpha_facts hI
 refine ⟨h3.valid hI h4,h3.alphabet,fun v=>?_⟩
 rw [h3.accepts a0 a63 (lngW_blind t) v]
 exact startW_safe v vS vP
end Go.Proofs.YtadplnbadfnlfaaGreatDoor
