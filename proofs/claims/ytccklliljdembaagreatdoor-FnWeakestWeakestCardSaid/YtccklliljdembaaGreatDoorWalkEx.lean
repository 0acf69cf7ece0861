import Derived.Test.YtccklliljdembaaGreatDoorPlainLw
import Derived.Test.YtccklliljdembaaGreatDoorWalkR
import Derived.Test.YtccklliljdembaaGreatDoorSubS
import Derived.Test.YtccklliljdembaaGreatDoorWalkFB
import Derived.Test.YtccklliljdembaaGreatDoorSafe
namespace Go.Proofs.YtccklliljdembaaGreatDoor
set_option linter.unusedSimpArgs false
set_option linter.unusedVariables false
open Go Go.RowKit
set_option maxHeartbeats 2000000
set_option maxRecDepth 100000
def extRow (p:Auto) (n:Int) (k m:Nat):List Int:=((letters n).take m).map fun l=>((step p k l:Nat):Int)
def extRows (p:Auto) (n:Int) (k:Nat):List (List Int):=(List.range k).map fun q=>extRow p n q (letters n).length
theorem extRow_succ {p:Auto} {n:Int} {k m:Nat} {l:Int} (h:(letters n)[m]?=some l):extRow p n k (m+1)=extRow p n k m++[((step p k l:Nat):Int)]:=by
 unfold extRow;rw [List.take_add_one,h,List.map_append];rfl
theorem extRow_len {p:Auto} {n:Int} {k m:Nat} (h:m≤(letters n).length):(extRow p n k m).length=m:=by unfold extRow;simp;omega
theorem extRows_succ (p:Auto) (n:Int) (k:Nat):extRows p n (k+1)=extRows p n k++[extRow p n k (letters n).length]:=by
 unfold extRows;rw [List.range_succ,List.map_append];rfl
theorem extRows_len (p:Auto) (n:Int) (k:Nat):(extRows p n k).length=k:=by simp [extRows]
theorem extRows_full (p:Auto) (n:Int):extRows p n p.next.length=(extA p n).next:=by
 unfold extRows extA extRow
 simp only [List.take_length]
theorem ext_alpha {a b:Int} (ha:isAlpha a=true) (hb:isAlpha b=true):0≤bits .or .i64 a b∧bits .or .i64 a b≤63∧∀l,bit (bits .or .i64 a b) l=(bit a l||bit b l):=by
 obtain ⟨a0,a63⟩:=alpha_facts ha
 obtain ⟨b0,b63⟩:=alpha_facts hb
 obtain ⟨m,rfl⟩:=Int.eq_ofNat_of_zero_le a0
 obtain ⟨n,rfl⟩:=Int.eq_ofNat_of_zero_le b0
 rw [i64_or_nat m n (by omega) (by omega)]
 have:m ||| n<2 ^ 6:=Nat.or_lt_two_pow (by omega) (by omega)
 exact ⟨by omega,by omega,fun l=>bit_or m n l⟩
def ExtEnd (x:Auto) (al:Int) (w:World) (e:Ending) (w':World):Prop:=
 ∃u R,e=.returned (.tuple #[u,.bool (autoValid x&&isAlpha al)])∧Ext w w'∧AutoOwn w.heap.size w' u R∧R=if (autoValid x&&isAlpha al)=true then extA x (bits .or .i64 x.alphabet al) else zeroA
def exPool (vW:Value) (m:Nat) (row:List Int) (vN:Value) (k:Nat) (vs:List Value) (rows:List (List Int)) (vA:Value) (acc:List Bool) (vL:Value) (L:List Int):List Slc:=
 ⟨3,1,vW,m,row.map (Value.int .i64)⟩ :: ⟨78,1,vN,k,vs⟩ :: ⟨4,1,vA,acc.length,acc.map Value.bool⟩ :: ⟨3,1,vL,L.length,L.map (Value.int .i64)⟩ :: slRows 3 vs rows
theorem perm_ex (n r b c:Slc) (l:List Slc):(n::r::b::c::l).Perm (c::n::b::(l++[r])):=by
 have h1:(r::b::c::l).Perm (b::c::r::l):=(List.Perm.swap b r (c::l)).trans ((List.Perm.swap c r l).cons b)
 have h2:(r::l).Perm (l++[r]):=(List.perm_append_singleton r l).symm
 exact ((h1.trans ((h2.cons c).cons b)).cons n).trans (((List.Perm.swap c b (l++[r])).cons n).trans (List.Perm.swap c n (b::(l++[r]))))
theorem perm_lets (c n b:Slc) (l:List Slc):(c::n::b::l).Perm (n::b::c::l):=(List.Perm.swap n c (b::l)).trans ((List.Perm.swap b c l).cons n)
theorem ExtendAutomaton_c (v:Value) (x:Auto) (al:Int) (w:World) (hv:AutoV w v x) :
  Calls Tryz.prog 23 #[v,.int .i64 al] w (ExtEnd x al w):=by
 obtain ⟨vn,va,rfl,h1,h2⟩:=hv
 obtain ⟨an,cn,rfl,-,-⟩:=h1.open
 obtain ⟨aa,ca,rfl,-,-⟩:=h2.open
 have HV:=Lib.hid (show ∀w',Ext w w'→AutoV w' (.agg #[.int .i64 x.alphabet,.slice an x.next.length cn,.slice aa x.accept.length ca]) x from fun w' h=>⟨_,_,rfl,h1.mono h,h2.mono h⟩)
 have HB:=Lib.hid (show ∀w',Ext w w'→BoolsV w' (.slice aa x.accept.length ca) x.accept from fun w' h=>h2.mono h)
 clear h1 h2
 obtain ⟨wo,hwo⟩:∃wo,wo=(w.alloc (.cells #[.int .i64 x.alphabet,.slice an x.next.length cn,.slice aa x.accept.length ca] 26)).alloc (.cells #[.int .i64 0,.slice none 0 0,.slice none 0 0] 26):=⟨_,rfl⟩
 have he:Ext w wo:=by rw [hwo];exact (Ext.alloc _ _).trans (Ext.alloc _ _)
 have hB:Blk wo w.heap.size #[.int .i64 x.alphabet,.slice an x.next.length cn,.slice aa x.accept.length ca] 26:=by rw [hwo];exact Ext.blk (Ext.alloc _ _)
 have hR:Blk wo (w.heap.size+1) #[.int .i64 0,.slice none 0 0,.slice none 0 0] 26:=by rw [hwo];exact Ext.blk1 (Ext.refl _)
 go_enter Tryz.func23,Tryz.ntmps23
 go_upto_region 1 with fail
 rw [←hwo]
 clear hwo
 have hB_0:=hB.cell 0 rfl;have hB_1:=hB.cell 1 rfl;have hB_2:=hB.cell 2 rfl
 by_cases hx:autoValid x=true
 case neg=>
  have hx:autoValid x=false:=by simpa using hx
  go_wp2_with fail
  refine (AutomatonValid_b hx (HV.out _ he)).mono ?_
  rintro e w1 ⟨rfl,he1⟩
  clear hB_0 hB_1 hB_2
  replace hR:=hR.ext he1
  have rc0:=hR.cell 0 rfl;have rf0:=hR.fr 0;have rc1:=hR.cell 1 rfl;have rf1:=hR.fr 1;have rc2:=hR.cell 2 rfl;have rf2:=hR.fr 2
  go_wp2_with fail
  refine bodyPost_ret (v:=.tuple #[.agg #[.int .i64 0,.slice none 0 0,.slice none 0 0],.bool false]) (by simp [results,Tryz.results23,go_sem,rc0,rc1,rc2,rf0,rf1,rf2]) rfl ?_
  exact ⟨_,zeroA,by rw [hx];rfl,((((he.trans he1).setCell (p:=⟨(w.heap.size+1),0,none⟩) (by simp only [];omega) _).setCell (p:=⟨(w.heap.size+1),1,none⟩) (by simp only [];omega) _).setCell (p:=⟨(w.heap.size+1),2,none⟩) (by simp only [];omega) _),zero_own _ _,by rw [hx];rfl⟩
 go_wp2_with fail
 refine (AutomatonValid_b hx (HV.out _ he)).mono ?_
 rintro e w1 ⟨rfl,he1⟩
 clear hB_0 hB_1 hB_2
 replace hR:=hR.ext he1
 replace hB:=hB.ext he1
 replace he:=he.trans he1
 have HX:=Lib.hid hx
 clear hx he1
 by_cases ha:isAlpha al=true
 case neg=>
  have ha:isAlpha al=false:=by simpa using ha
  have rc0:=hR.cell 0 rfl;have rf0:=hR.fr 0;have rc1:=hR.cell 1 rfl;have rf1:=hR.fr 1;have rc2:=hR.cell 2 rfl;have rf2:=hR.fr 2
  go_wp2_with (go_at_call 65;refine (isAlphabet_c al _).mono ?_;rintro e w' ⟨rfl,rfl⟩;rw [ha])
  refine bodyPost_ret (v:=.tuple #[.agg #[.int .i64 0,.slice none 0 0,.slice none 0 0],.bool false]) (by simp [results,Tryz.results23,go_sem,rc0,rc1,rc2,rf0,rf1,rf2]) rfl ?_
  exact ⟨_,zeroA,by rw [HX.out,ha];rfl,(((he.setCell (p:=⟨(w.heap.size+1),0,none⟩) (by simp only [];omega) _).setCell (p:=⟨(w.heap.size+1),1,none⟩) (by simp only [];omega) _).setCell (p:=⟨(w.heap.size+1),2,none⟩) (by simp only [];omega) _),zero_own _ _,by rw [HX.out,ha];rfl⟩
 have HA:=Lib.hid ha
 obtain ⟨f1,f2,f3,f4,f5⟩:=autoValid_facts HX.out
 have hacc:x.accept.length≤1048576:=by omega
 clear f5
 obtain ⟨n0,n63,-⟩:=ext_alpha (show isAlpha x.alphabet=true by simp [isAlpha,f1,f2]) ha
 clear ha
 obtain ⟨N,hN⟩:∃N,bits .or .i64 x.alphabet al=N:=⟨_,rfl⟩
 have HN:=Lib.hid hN
 rw [hN] at n0 n63
 have hB_0:=hB.cell 0 rfl;have hB_1:=hB.cell 1 rfl;have hB_2:=hB.cell 2 rfl
 go_wp2_with (go_at_call 65;refine (isAlphabet_c al _).mono ?_;rintro e w' ⟨rfl,rfl⟩;rw [HA.out])
 refine (tableOf_c _ x _ (HV.out _ he) HX.out).mono ?_
 rintro e w2 ⟨vt,rfl,he2,htb⟩
 obtain ⟨aT,cT,rfl,-,hto⟩:=htb.open
 rw [table_len] at *
 have HT:=Lib.hid hto
 clear hB_0 hB_1 hB_2 htb hto
 replace hR:=hR.ext he2
 replace hB:=hB.ext he2
 replace he:=he.trans he2
 have hRl:=hR.lt
 clear he2
 go_upto_region 4 with fail
 have D0:=fun d os=>cell_regrown (hB.cell 0 rfl) d os
 have D2:=fun d os=>cell_regrown (hB.cell 2 rfl) d os
 obtain ⟨Kc,HKc⟩:∃Kc:FuncId→Array Value→World→Value→World→Prop,Hid (Kc=fun _ _ w0 v w'=>Ext w0 w'∧BoolsOwn 4 w0.heap.size w' v x.accept):=⟨_,rfl⟩
 refine wp_region_ext (Kc:=Kc) 9 (by kernel_rfl) (by kernel_rfl) ?_
 simp only [List.take_succ_cons,List.take_zero]
 repeat (refine WalkE.pure rfl (fun K hK=>?_);simp only [PureDo];go_simp;refine hK _ ?_;clear hK K)
 refine WalkE.step (fun K hK wc hwc hdc=>?_)
 simp only [OpDo,OpSafe,OpOut]
 go_simp
 refine ⟨(cloneBools_c _ x.accept _ (HB.out _ (he.trans ((Ext.drew _).trans hwc))) hacc).mono ?_,?_⟩
 ·rintro e w' ⟨v,rfl,he,hv⟩
  exact ⟨v,rfl,by rw [HKc.out];exact ⟨he,hv⟩⟩
 intro u w4 hk
 rw [HKc.out] at hk
 refine ⟨hk.1,hK _ _ ?_⟩
 clear hK K hdc
 obtain ⟨aa',ca',rfl⟩:=hk.2.shape
 repeat (refine WalkE.pure rfl (fun K hK=>?_);simp only [PureDo];go_simp;refine hK _ ?_;clear hK K)
 refine WalkE.step (fun K hK wd hwd hdd=>?_)
 simp only [OpDo,OpSafe,OpOut]
 go_simp
 refine ⟨Ext.alloc _ _,hK _ _ ?_⟩
 clear hK K hdd
 refine WalkE.nil (fun wn hwn hmn=>?_)
 simp only [List.drop_succ_cons,List.drop_zero,List.drop_nil]
 have hwcs:w2.heap.size≤wc.heap.size:=Nat.le_trans (Ext.drew _).size hwc.size
 have hwds:w2.heap.size≤wd.heap.size:=Nat.le_trans (Ext.drew _).size hwd.size
 have hb:=(hk.2.ext (hmn 6 (by omega))).low hwcs
 have hG:=(Blk.new wd _ _).ext (hmn 8 (by omega))
 have hxn:Ext w2 wn:=(Ext.drew _).trans hwn
 clear hmn hwd hwc hk hwcs HKc D0 D2 hwn
 generalize wd.heap.size=g at hG hwds⊢
 clear wd wc w4
 replace hB:=hB.ext hxn
 replace hR:=hR.ext hxn
 have gc0:=hG.cell 0 rfl;have gf0:=hG.fr 0;have gc1:=hG.cell 1 rfl;have gf1:=hG.fr 1;have gc2:=hG.cell 2 rfl;have gf2:=hG.fr 2
 try rw [hN]
 go_upto_region 5 with fail
 have hG1:=((hG.set 0 (.int .i64 N)).set 1 (.slice none 0 0)).set 2 (.slice aa' x.accept.length ca')
 have hb1:BoolsOwn 4 w2.heap.size (((wn.setCell ⟨g,0,none⟩ (.int .i64 N)).setCell ⟨g,1,none⟩ (.slice none 0 0)).setCell ⟨g,2,none⟩ (.slice aa' x.accept.length ca')) (.slice aa' x.accept.length ca') x.accept:=own_store (own_store (own_store hb hG (by decide) _ _) (hG.set 0 _) (by decide) _ _) ((hG.set 0 _).set 1 _) (by decide) _ _
 generalize hW1:((wn.setCell ⟨g,0,none⟩ (.int .i64 N)).setCell ⟨g,1,none⟩ (.slice none 0 0)).setCell ⟨g,2,none⟩ (.slice aa' x.accept.length ca')=w5 at hG1 hb1⊢
 have hB5:Blk w5 w.heap.size #[.int .i64 x.alphabet,.slice an x.next.length cn,.slice aa x.accept.length ca] 26:=by rw [←hW1];exact (((hB.other (p:=⟨g,0,none⟩) (by simp only [];omega) _).other (p:=⟨g,1,none⟩) (by simp only [];omega) _).other (p:=⟨g,2,none⟩) (by simp only [];omega) _)
 have hR5:Blk w5 (w.heap.size+1) #[.int .i64 0,.slice none 0 0,.slice none 0 0] 26:=by rw [←hW1];exact (((hR.other (p:=⟨g,0,none⟩) (by simp only [];omega) _).other (p:=⟨g,1,none⟩) (by simp only [];omega) _).other (p:=⟨g,2,none⟩) (by simp only [];omega) _)
 have hx5:Ext w2 w5:=by rw [←hW1];exact (((hxn.setCell (p:=⟨g,0,none⟩) (by simp only [];omega) _).setCell (p:=⟨g,1,none⟩) (by simp only [];omega) _).setCell (p:=⟨g,2,none⟩) (by simp only [];omega) _)
 have he5:=he.trans hx5
 clear hW1 hb hG hB hR hxn gc0 gc1 gc2 gf0 gf1 gf2
 have d1:=hB5.cell 1 rfl
 have hP0:Pool w2.heap.size w5 (⟨78,1,.slice none 0 0,0,[]⟩ :: ⟨4,1,.slice aa' x.accept.length ca',x.accept.length,x.accept.map Value.bool⟩ :: slRows 3 [] []):=by
  refine Pool.addNil (l:=[⟨4,1,.slice aa' x.accept.length ca',x.accept.length,x.accept.map Value.bool⟩]) ⟨fun s hs=>?_,by simp⟩ _ _
  have hs':=List.mem_singleton.1 hs
  subst hs'
  exact hb1.own
 go_wp2_with fail
 clear d1 hB5 hb1
 go_loopw [34] (fun i wr=>∃(k:Nat) (vN:Value) (vs:List Value),k≤x.next.length∧i=.int .i64 k∧Blk wr g #[.int .i64 N,vN,.slice aa' x.accept.length ca'] 26∧Pool w2.heap.size wr (⟨78,1,vN,k,vs⟩ :: ⟨4,1,.slice aa' x.accept.length ca',x.accept.length,x.accept.map Value.bool⟩ :: slRows 3 vs (extRows x N k))∧Hid (vs.length=k)∧Blk wr (w.heap.size+1) #[.int .i64 0,.slice none 0 0,.slice none 0 0] 26∧Ext w wr∧Ext w2 wr) (fun i _=>x.next.length-(intOf i).toNat)
 case atStart=>exact ⟨0,.slice none 0 0,[],by omega,rfl,hG1,hP0,Lib.hid rfl,hR5,he5,hx5⟩
 case round=>
  clear hG1 hP0 hR5 he5 hx5 he
  obtain ⟨k,vN,vs,hk,rfl,hG,hP,HVL,hR,he,hx⟩:=hrel
  obtain ⟨aN,cN,rfl⟩:=own_any' (Pool.hd hP)
  by_cases hlt:k<x.next.length
  case neg=>
   obtain rfl:k=x.next.length:=by omega
   have c0:=hG.cell 0 rfl
   have c1:=hG.cell 1 rfl
   have c2:=hG.cell 2 rfl
   have hEND:AutoOwn w2.heap.size wr (.agg #[.int .i64 N,.slice aN x.next.length cN,.slice aa' x.accept.length ca']) (extA x N):=by
    refine Pool.auto (x:=extA x N) (vs:=vs) ?_ (by rw [HVL.out,extA_len])
    rw [extA_len,←extRows_full]
    exact hP
   have HEND:=Lib.hid hEND
   clear hEND hP
   have rc0:=hR.cell 0 rfl;have rf0:=hR.fr 0;have rc1:=hR.cell 1 rfl;have rf1:=hR.fr 1;have rc2:=hR.cell 2 rfl;have rf2:=hR.fr 2
   go_wp2_with fail
   refine bodyPost_ret (v:=.tuple #[.agg #[.int .i64 N,.slice aN x.next.length cN,.slice aa' x.accept.length ca'],.bool true]) (by simp [results,Tryz.results23,go_sem,rc0,rc1,rc2,rf0,rf1,rf2]) rfl ?_
   refine ⟨_,extA x N,by rw [HX.out,HA.out];rfl,(((he.setCell (p:=⟨(w.heap.size+1),0,none⟩) (by simp only [];omega) _).setCell (p:=⟨(w.heap.size+1),1,none⟩) (by simp only [];omega) _).setCell (p:=⟨(w.heap.size+1),2,none⟩) (by simp only [];omega) _),?_,by rw [HX.out,HA.out,HN.out];rfl⟩
   exact (auto_store (auto_store (auto_store HEND.out hR (by decide) (by decide) (by decide) 0 _) (hR.set 0 _) (by decide) (by decide) (by decide) 1 _) ((hR.set 0 _).set 1 _) (by decide) (by decide) (by decide) 2 _).low (by omega)
  have gc0:=hG.cell 0 rfl
  have hlt':(k:Int)<(x.next.length:Int):=by omega
  go_wp2_with fail
  refine (lettersOf_o N _ n0 n63).mono ?_
  rintro e w6 ⟨vl,rfl,he6,hl⟩
  obtain ⟨aL,cL,rfl⟩:=hl.shape
  have hPL:=((hP.add he6 ⟨3,1,_,_,_⟩ (Nat.le_refl _) hx.size hl.own).perm (perm_lets _ _ _ _)).addNil 3 1
  clear gc0 hl hP
  replace hG:=hG.ext he6
  replace hR:=hR.ext he6
  replace he:=he.trans he6
  replace hx:=hx.trans he6
  have hL6:(letters N).length≤6:=lettersTo_len N 6
  go_wp2_with fail
  go_loopw [9,41] (fun vW j wr=>∃m:Nat,m≤(letters N).length∧j=.int .i64 m∧Pool w2.heap.size wr (exPool vW m (extRow x N k m) (.slice aN k cN) k vs (extRows x N k) (.slice aa' x.accept.length ca') x.accept (.slice aL (letters N).length cL) (letters N))∧Blk wr g #[.int .i64 N,.slice aN k cN,.slice aa' x.accept.length ca'] 26∧Blk wr (w.heap.size+1) #[.int .i64 0,.slice none 0 0,.slice none 0 0] 26∧Ext w wr∧Ext w2 wr) (fun _ j _=>(letters N).length-(intOf j).toNat)
  case atStart=>exact ⟨0,by omega,rfl,hPL,hG,hR,he,hx⟩
  case round=>
   clear hPL hG hR he hx he6
   obtain ⟨m,hm,rfl,hP,hG,hR,he,hx⟩:=hrel
   obtain ⟨aW,cW,rfl⟩:=own_any' (Pool.hd hP)
   by_cases hml:m<(letters N).length
   ·obtain ⟨l,hlm⟩:∃l,(letters N)[m]?=some l:=⟨_,List.getElem?_eq_getElem hml⟩
    obtain ⟨hb,l0,l6,hm6⟩:=letters_mem _ _ _ n63 hlm
    obtain ⟨lt,rfl⟩:=Int.eq_ofNat_of_zero_le l0
    obtain ⟨bl,cL',e6,gl⟩:=own_at (Pool.hd4 hP) (j:=m) (u:=.int .i64 (lt:Int)) (by rw [List.getElem?_map,hlm];rfl)
    cases e6
    obtain ⟨bt,ot,rfl,-,hct⟩:=HT.out k _ (table_at x k hlt)
    have gt:=hx.cell (hct k _ (table_at x k hlt) lt (by omega))
    simp only [tabRow] at gt
    have HSU:=Lib.hid (extRow_succ (p:=x) (k:=k) hlm)
    obtain ⟨z,hz⟩:∃z,step x k (lt:Int)=z:=⟨_,rfl⟩
    rw [hz] at gt HSU
    have hml':(m:Int)<((letters N).length:Int):=by omega
    have hlt6:(lt:Int)<6:=by omega
    have hP':=hP
    unfold exPool at hP'
    clear hct hz hlm hb hP
    go_wp2_with (at_builtin;refine appP (news:=[Value.int .i64 (z:Int)]) rfl rfl Tryz.underlying78 infoInt rfl (by decide) hP' rfl rfl rfl (by simp [Value.oneCell']) (by omega) (by decide) hx.size ?_;intro v1 w7 hP1 hg1 hb1)
    refine ⟨⟨m+1,by omega,by go_num,?_,hG.grown (Pool.hd hP') hg1 (by decide),hR.grown (Pool.hd hP') hg1 (by decide),Below.trans he (hb1.mono (by omega)),Below.trans hx hb1⟩,by simp [intOf];omega⟩
    unfold exPool
    rw [HSU.out,List.map_append]
    exact hP1
   ·obtain rfl:m=(letters N).length:=by omega
    have hPN:=hP.perm (List.Perm.swap _ _ _)
    have gc1:=hG.cell 1 rfl
    have hk12:k≤12:=by omega
    clear hP
    go_wp2_with (at_builtin;refine appP (news:=[Value.slice aW (letters N).length cW]) rfl rfl Tryz.underlying23 infoInts rfl (by decide) hPN rfl rfl rfl (by simp [Value.oneCell']) (by omega) (by decide) hx.size ?_;intro v1 w7 hP1 hg1 hb1;obtain ⟨a1,c1,rfl⟩:=own_any' (Pool.hd hP1);have hG3:=hG.grown (Pool.hd hPN) hg1 (by decide);have gd1:=hG3.cell 1 rfl;have gf1:=hG3.fr 1)
    refine ⟨⟨k+1,_,vs++[.slice aW (letters N).length cW],by omega,by go_num,hG3.set 1 _,?_,Lib.hid (by rw [List.length_append,HVL.out];rfl),(hR.grown (Pool.hd hPN) hg1 (by decide)).other (p:=⟨g,1,none⟩) (by simp only [];omega) _,(Below.trans he (hb1.mono (by omega))).setCell (p:=⟨g,1,none⟩) (by simp only [];omega) _,(Below.trans hx hb1).setCell (p:=⟨g,1,none⟩) (by simp only [];omega) _⟩,by simp [intOf];omega⟩
    have hp:=(hP1.perm (perm_ex _ _ _ _ _)).tail
    have hp2:=Pool.set hp hG3 (fun t ht=>by
     rcases List.mem_cons.1 ht with e | ht
     ·rw [e];dsimp only;decide
     rcases List.mem_cons.1 ht with e | ht
     ·rw [e];dsimp only;decide
     rcases List.mem_append.1 ht with ht | ht
     ·rw [slRows_e t ht];decide
     ·simp at ht;rw [ht];dsimp only;decide) 1 (.slice a1 (k+1) c1)
    rw [extRows_succ,slRows_push (by rw [HVL.out,extRows_len])]
    unfold slInts
    rw [extRow_len (Nat.le_refl _)]
    exact hp2
theorem SafetyPart_d (v:Value) (x:Auto) (w:World) (hv:AutoV w v x) :
  Calls Tryz.prog 22 #[v] w (fun e w'=>∃u R,e=.returned (.tuple #[u,.bool (autoValid x)])∧Ext w w'∧AutoOwn w.heap.size w' u R∧R=if autoValid x=true then safetyPart x else zeroA):=by
 by_cases hx:autoValid x=true
 ·refine (SafetyPart_c v x w hv hx).mono ?_
  rintro e w' ⟨u,rfl,he,hO⟩
  exact ⟨u,_,by rw [hx],he,hO,by rw [if_pos hx]⟩
 have hx:autoValid x=false:=by simpa using hx
 obtain ⟨vn,va,rfl,h1,h2⟩:=hv
 obtain ⟨an,cn,rfl,-,-⟩:=h1.open
 obtain ⟨aa,ca,rfl,-,-⟩:=h2.open
 have HV:=Lib.hid (show ∀w',Ext w w'→AutoV w' (.agg #[.int .i64 x.alphabet,.slice an x.next.length cn,.slice aa x.accept.length ca]) x from fun w' h=>⟨_,_,rfl,h1.mono h,h2.mono h⟩)
 clear h1 h2
 obtain ⟨wo,hwo⟩:∃wo,wo=(w.alloc (.cells #[.int .i64 x.alphabet,.slice an x.next.length cn,.slice aa x.accept.length ca] 26)).alloc (.cells #[.int .i64 0,.slice none 0 0,.slice none 0 0] 26):=⟨_,rfl⟩
 have he:Ext w wo:=by rw [hwo];exact (Ext.alloc _ _).trans (Ext.alloc _ _)
 have hB:Blk wo w.heap.size #[.int .i64 x.alphabet,.slice an x.next.length cn,.slice aa x.accept.length ca] 26:=by rw [hwo];exact Ext.blk (Ext.alloc _ _)
 have hR:Blk wo (w.heap.size+1) #[.int .i64 0,.slice none 0 0,.slice none 0 0] 26:=by rw [hwo];exact Ext.blk1 (Ext.refl _)
 go_enter Tryz.func22,Tryz.ntmps22
 go_upto_region 1 with fail
 rw [←hwo]
 clear hwo
 have hB_0:=hB.cell 0 rfl;have hB_1:=hB.cell 1 rfl;have hB_2:=hB.cell 2 rfl
 go_wp2_with fail
 refine (AutomatonValid_b hx (HV.out _ he)).mono ?_
 rintro e w1 ⟨rfl,he1⟩
 clear hB_0 hB_1 hB_2
 replace hR:=hR.ext he1
 have rc0:=hR.cell 0 rfl;have rf0:=hR.fr 0;have rc1:=hR.cell 1 rfl;have rf1:=hR.fr 1;have rc2:=hR.cell 2 rfl;have rf2:=hR.fr 2
 go_wp2_with fail
 refine bodyPost_ret (v:=.tuple #[.agg #[.int .i64 0,.slice none 0 0,.slice none 0 0],.bool false]) (by simp [results,Tryz.results22,go_sem,rc0,rc1,rc2,rf0,rf1,rf2]) rfl ?_
 exact ⟨_,rfl,((((he.trans he1).setCell (p:=⟨(w.heap.size+1),0,none⟩) (by simp only [];omega) _).setCell (p:=⟨(w.heap.size+1),1,none⟩) (by simp only [];omega) _).setCell (p:=⟨(w.heap.size+1),2,none⟩) (by simp only [];omega) _),zero_own _ _⟩
end Go.Proofs.YtccklliljdembaaGreatDoor
