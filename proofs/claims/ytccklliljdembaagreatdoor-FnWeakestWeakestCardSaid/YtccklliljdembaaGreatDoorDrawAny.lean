import Derived.Test.YtccklliljdembaaGreatDoorDrawLp
import Derived.Test.YtccklliljdembaaGreatDoorDrawBad
import Derived.Deep.RegionLaw
import Derived.Deep.DrawnRows
namespace Go.Proofs.YtccklliljdembaaGreatDoor
set_option linter.unusedSimpArgs false
set_option linter.unusedVariables false
open Go.RowKit
set_option maxHeartbeats 1000000
set_option maxRecDepth 100000
attribute [local go_sem ↓] Go.wp_at_zero Go.wp_at_succ
variable {D D' D'':Nat→Prop} {g q q':Nat} {w w':World}
theorem l3Any_t (h:St D g q w) (hq:q+43100≤1000000) :
  Calls Tryz.prog 61 #[.pointer (some ⟨g,0,none⟩)] w (Drawn D g q 43100 w AutoT):=by
 have hg:=h.g_lt
 have hd:=fun x hx=>(h.dom x hx).2
 have B0:=Box.new h #[.int .i64 0,.slice none 0 0,.slice none 0 0] 26
 go_enter Tryz.func61,Tryz.ntmps61
 go_wp2_with fail
 generalize w.alloc (.cells #[.int .i64 0,.slice none 0 0,.slice none 0 0] 26)=w1 at B0⊢
 refine (pick_t 12 B0.st (by omega) (by omega)).mono ?_
 rintro e w2 ⟨x,rfl,-,-,hs2,hk2⟩
 have B1:=B0.kept hg hk2 (c':=1) hs2
 clear hs2 hk2 B0
 by_cases hx:x=0
 ·subst hx
  go_wp2_with fail
  refine (l3Big_t B1.st (by omega)).mono ?_
  rintro e wd ⟨vd,Dd,rfl,hid,hsd,htd,hSd⟩
  have Bd:=B1.drawn hg hid htd (c':=43100) (hsd.up (by omega))
  obtain ⟨ald,nd,md,aNd,cNd,aAd,cAd,rfl,hnd,hmd,hNd,hAd⟩:=hSd.boxed
  have rc0:=Bd.blk.cell 0 rfl;have rf0:=Bd.blk.fr 0;have rc1:=Bd.blk.cell 1 rfl;have rf1:=Bd.blk.fr 1;have rc2:=Bd.blk.cell 2 rfl;have rf2:=Bd.blk.fr 2
  go_wp2_with fail
  refine bodyPost_ret (v:=.agg #[.int .i64 ald,.slice aNd nd cNd,.slice aAd md cAd]) (by simp [results,Tryz.results61,go_sem,rc0,rc1,rc2,rf0,rf1,rf2]) rfl ?_
  have BZ:=((Bd.set hg hd (Nat.le_refl _) 0 (.int .i64 ald)).set hg hd (Nat.le_refl _) 1 (.slice aNd nd cNd)).set hg hd (Nat.le_refl _) 2 (.slice aAd md cAd)
  have oZ:=Bd.out
  exact ⟨_,Dd,rfl,BZ.inc,BZ.st.up (by omega),BZ.tr,_,_,_,_,_,rfl,by omega,by omega,(((hNd.tr (fun _ h=>h) (Shp.box oZ)).tr (fun _ h=>h) (Shp.box oZ)).tr (fun _ h=>h) (Shp.box oZ)),(((hAd.tr (fun _ h=>h) (Shp.box oZ)).tr (fun _ h=>h) (Shp.box oZ)).tr (fun _ h=>h) (Shp.box oZ))⟩
 ·have hx':((x:Int)==0)=false:=beq_eq_false_iff_ne.2 (by omega)
  go_wp2_with fail
  refine (l3Draw_t B1.st (by omega)).mono ?_
  rintro e wb ⟨vb,Db,rfl,hib,hsb,htb,hSb⟩
  have Bb:=B1.drawn hg hib htb (c':=43001) (hsb.up (by omega))
  go_wp2_with fail
  refine (l3Wrong_t _ hSb Bb.st (by omega)).mono ?_
  rintro e wd ⟨vd,Dd,rfl,hid,hsd,htd,hSd⟩
  have Bd:=Bb.drawn hg hid htd (c':=43100) (hsd.up (by omega))
  obtain ⟨ald,nd,md,aNd,cNd,aAd,cAd,rfl,hnd,hmd,hNd,hAd⟩:=hSd.boxed
  have rc0:=Bd.blk.cell 0 rfl;have rf0:=Bd.blk.fr 0;have rc1:=Bd.blk.cell 1 rfl;have rf1:=Bd.blk.fr 1;have rc2:=Bd.blk.cell 2 rfl;have rf2:=Bd.blk.fr 2
  go_wp2_with fail
  refine bodyPost_ret (v:=.agg #[.int .i64 ald,.slice aNd nd cNd,.slice aAd md cAd]) (by simp [results,Tryz.results61,go_sem,rc0,rc1,rc2,rf0,rf1,rf2]) rfl ?_
  have BZ:=((Bd.set hg hd (Nat.le_refl _) 0 (.int .i64 ald)).set hg hd (Nat.le_refl _) 1 (.slice aNd nd cNd)).set hg hd (Nat.le_refl _) 2 (.slice aAd md cAd)
  have oZ:=Bd.out
  exact ⟨_,Dd,rfl,BZ.inc,BZ.st.up (by omega),BZ.tr,_,_,_,_,_,rfl,by omega,by omega,(((hNd.tr (fun _ h=>h) (Shp.box oZ)).tr (fun _ h=>h) (Shp.box oZ)).tr (fun _ h=>h) (Shp.box oZ)),(((hAd.tr (fun _ h=>h) (Shp.box oZ)).tr (fun _ h=>h) (Shp.box oZ)).tr (fun _ h=>h) (Shp.box oZ))⟩
def AutoS (D:Nat→Prop) (q:Nat) (w:World) (v:Value):Prop:=∃a s,v=.tuple #[a,.string s]∧AutoT D q w a∧s.size≤60000
theorem AutoS.tr {v:Value} (h:AutoS D q w v) (hi:∀b,D b→D' b) (hs:Shp D w w') (hq:q≤q'):AutoS D' q' w' v:=by
 obtain ⟨a,s,rfl,h1,h2⟩:=h
 exact ⟨a,s,rfl,h1.tr hi hs hq,h2⟩
theorem DrawStateAfter_t (v:Value) (l:List UInt8) (w:World) (hv:BytesV w v l) (hl:l.length≤1048576) :
  Calls Tryz.prog 21 #[v] w (Drew 46000 w AutoS):=by
 obtain ⟨wo,hwo⟩:∃wo,wo=w.alloc (.cells #[.int .i64 0,.slice none 0 0,.slice none 0 0] 26):=⟨_,rfl⟩
 have he:Ext w wo:=by rw [hwo];exact Ext.alloc _ _
 have b0:Blk wo w.heap.size #[.int .i64 0,.slice none 0 0,.slice none 0 0] 26:=by rw [hwo];exact Blk.new _ _ _
 have hso:wo.heap.size=w.heap.size+1:=by rw [hwo];simp
 go_enter Tryz.func21,Tryz.ntmps21
 go_wp2_with fail
 rw [←hwo]
 clear hwo
 refine (l19Open_t v l wo (hv.mono (fun b o x _ h=>he.cell h) he.size) hl).mono ?_
 rintro e w1 ⟨g,rfl,hgb,he1,hs1⟩
 have b0:=b0.ext he1
 have hw1:w.heap.size+1≤w1.heap.size:=by have:=he1.size;omega
 have hb1:Ext w w1:=he.trans he1
 clear he he1 hv
 have N0:=Bare.new hs1
 have hd:∀x,(fun _=>False:Nat→Prop) x→x<w1.heap.size:=fun x hx=>hx.elim
 go_wp2_with fail
 refine (l3Any_t hs1 (by omega)).mono ?_
 rintro e w2 ⟨r,D2,rfl,hi2,hs2,ht2,hR⟩
 obtain ⟨al,n,m,aN,cN,aA,cA,rfl,hn,hm,hN,hA⟩:=hR.boxed
 have hw2:=ht2.size
 have b0:=b0.tr ht2 (fun h=>h) (by omega)
 have N2:=N0.drawn (c':=43100) hi2 ht2 hs2
 clear N0 hi2 ht2 hs2
 have B6:=N2.box #[.int .i64 al,.slice aN n cN,.slice aA m cA] 26
 have hx3:Ext w2 (w2.alloc (.cells #[.int .i64 al,.slice aN n cN,.slice aA m cA] 26)):=Ext.alloc _ _
 have hN:=hN.tr' (Inc.refl _ _) (Tr.ext N2.st hx3)
 have hA:=hA.tr' (Inc.refl _ _) (Tr.ext N2.st hx3)
 have b0:=b0.ext hx3
 have hgG:g<w2.heap.size:=N2.st.g_lt
 clear hx3 N2 hR
 have kc0:=B6.blk.cell 0 rfl;have kc1:=B6.blk.cell 1 rfl;have kc2:=B6.blk.cell 2 rfl
 go_wp2_with fail
 clear kc0 kc1 kc2
 generalize (w2.alloc (.cells #[.int .i64 al,.slice aN n cN,.slice aA m cA] 26))=w3 at B6 hN hA b0⊢
 generalize w2.heap.size=G6 at B6 hgG hw2⊢
 refine (l1Word_t al 7 (by omega) B6.st (by omega)).mono ?_
 rintro e w4 ⟨v4,D4,rfl,hi4,hs4,ht4,s,rfl,hsz⟩
 have b0:=b0.tr ht4 (fun h=>by have:=(B6.st.dom _ h).1;omega) (by omega)
 have hN:=hN.tr' hi4 ht4
 have hA:=hA.tr' hi4 ht4
 have B6:=B6.drawn (by omega) hi4 ht4 (c':=43300) (hs4.up (by omega))
 clear hi4 hs4 ht4
 go_wp2_with fail
 refine (pick_t 10 B6.st (by omega) (by omega)).mono ?_
 rintro e w5 ⟨x,rfl,-,-,hs5,hk5⟩
 have b0:=b0.kept hk5 (by omega)
 have hN:=hN.tr' (Inc.refl _ _) (Tr.kept B6.st hk5)
 have hA:=hA.tr' (Inc.refl _ _) (Tr.kept B6.st hk5)
 have B6:=B6.kept (by omega) hk5 (c':=43301) (hs5.up (by omega))
 clear hs5 hk5
 go_upto_if 17 with fail
 go_cut [6] (fun v6 wc=>∃(D':Nat→Prop) (u:ByteArray),v6=.string u∧u.size≤50∧Box (fun _=>False) g 2000 w1 G6 43501 #[.int .i64 al,.slice aN n cN,.slice aA m cA] 26 wc D'∧SlOk D' wc 78 1 (.slice aN n cN) n∧SlOk D' wc 4 1 (.slice aA m cA) m∧Blk wc w.heap.size #[.int .i64 0,.slice none 0 0,.slice none 0 0] 26)
 case first=>
  by_cases hx:x=0
  ·subst hx
   go_wp2_with fail
   refine (l1Word_t 7 3 (by omega) B6.st (by omega)).mono ?_
   rintro e w6 ⟨v6,D6,rfl,hi6,hs6,ht6,u,rfl,hsu⟩
   have b0:=b0.tr ht6 (fun h=>by have:=(B6.st.dom _ h).1;omega) (by omega)
   have hN:=hN.tr' hi6 ht6
   have hA:=hA.tr' hi6 ht6
   have B6:=B6.drawn (by omega) hi6 ht6 (c':=43501) (hs6.up (by omega))
   have hov:¬9223372036854775807<s.size+u.size:=by omega
   go_wp2_with fail
   go_meet
   case rel=>exact ⟨D6,_,rfl,by rw [ByteArray.size_append];omega,B6,hN,hA,b0⟩
  ·have hx':((x:Int)==0)=false:=beq_eq_false_iff_ne.2 (by omega)
   go_wp2_with fail
   go_meet
   case rel=>exact ⟨D4,_,rfl,by omega,B6.up (by omega),hN,hA,b0⟩
 case rest=>
 clear B6 hN hA b0
 obtain ⟨D7,u,rfl,hu,B6,hN,hA,b0⟩:=hcut
 have E6:=B6.ext (Ext.drew wc)
 have b0':=b0.ext (Ext.drew wc)
 have hN':=hN.tr' (Inc.refl _ _) (Tr.ext B6.st (Ext.drew wc))
 have hA':=hA.tr' (Inc.refl _ _) (Tr.ext B6.st (Ext.drew wc))
 have p0:=E6.blk.cell 0 rfl;have pa0:=fun o=>(Ext.alloc wc o).cell (B6.blk.cell 0 rfl);have pb0:=B6.blk.cell 0 rfl;have p1:=E6.blk.cell 1 rfl;have pa1:=fun o=>(Ext.alloc wc o).cell (B6.blk.cell 1 rfl);have pb1:=B6.blk.cell 1 rfl;have p2:=E6.blk.cell 2 rfl;have pa2:=fun o=>(Ext.alloc wc o).cell (B6.blk.cell 2 rfl);have pb2:=B6.blk.cell 2 rfl
 go_wp2_with fail
 go_region_law (go_simp;go_wp2_with (go_at_call 63;refine (l1Bad_t u (by omega) E6.st (by omega)).mono ?_;rintro e w8 ⟨v8,D8,rfl,hi8,hs8,ht8,t,rfl,htz⟩;have bK:=b0'.tr ht8 (fun h=>by have:=(E6.st.dom _ h).1;omega) (by omega);have E8:=E6.drawn (by omega) hi8 ht8 (c':=43504) (hs8.up (by omega));have y0:=bK.cell 0 rfl;have f0:=bK.fr 0;have z0:=E8.blk.cell 0 rfl;have y1:=bK.cell 1 rfl;have f1:=bK.fr 1;have z1:=E8.blk.cell 1 rfl;have y2:=bK.cell 2 rfl;have f2:=bK.fr 2;have z2:=E8.blk.cell 2 rfl))
 all_goals
  have hN8:=hN'.tr' hi8 ht8
  have hA8:=hA'.tr' hi8 ht8
  have hbn:Below w.heap.size w w8:=Below.trans hb1 (E8.tr.tnd.below (lo:=w.heap.size) (by omega) (fun b hb=>by rcases hb with hb | hb;exact hb.elim;omega))
  have hX:AutoS D8 46000 w8 (.tuple #[.agg #[.int .i64 al,.slice aN n cN,.slice aA m cA],.string t]):=⟨_,_,rfl,⟨_,_,_,_,_,rfl,by omega,by omega,hN8,hA8⟩,htz⟩
  have hsn:St D8 g 46000 w8:=hs8.up (by omega)
  clear p0 pa0 pb0 p1 pa1 pb1 p2 pa2 pb2 E8 E6 B6 hN8 hA8 hN' hA' hN hA
  have y9:Tnd (fun b=>w.heap.size≤b∧b<w.heap.size+1) w8 (((w8.setCell ⟨w.heap.size,0,none⟩ (.int .i64 al)).setCell ⟨w.heap.size,1,none⟩ (.slice aN n cN)).setCell ⟨w.heap.size,2,none⟩ (.slice aA m cA)):=Tnd.set3 (b:=w.heap.size) (by omega) _ _ _
  have B9:=bK.set3 (.int .i64 al) (.slice aN n cN) (.slice aA m cA)
  clear y0 y1 y2 f0 f1 f2 z0 z1 z2
  generalize (((w8.setCell ⟨w.heap.size,0,none⟩ (.int .i64 al)).setCell ⟨w.heap.size,1,none⟩ (.slice aN n cN)).setCell ⟨w.heap.size,2,none⟩ (.slice aA m cA))=w9 at y9 B9⊢
  have g0:=B9.cell 0 rfl
  have g1:=B9.cell 1 rfl
  have g2:=B9.cell 2 rfl
  go_wp2_with fail
  refine bodyPost_ret (v:=.tuple #[.agg #[.int .i64 al,.slice aN n cN,.slice aA m cA],.string t]) (by simp [results,Tryz.results21,go_sem,g0,g1,g2]) rfl ?_
  exact Drew.mk' (fun w' hw'=>hX.tr (fun _ h=>h) hw' (by omega)) hbn (fun b hb=>by have:=(hsn.dom b hb).1;omega) hsn.typ y9
end Go.Proofs.YtccklliljdembaaGreatDoor
