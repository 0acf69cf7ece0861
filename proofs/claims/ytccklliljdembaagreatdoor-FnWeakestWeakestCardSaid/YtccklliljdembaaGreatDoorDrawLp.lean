import Derived.Test.YtccklliljdembaaGreatDoorDrawV
import Derived.Test.YtccklliljdembaaGreatDoorDrawC
namespace Go.Proofs.YtccklliljdembaaGreatDoor
set_option linter.unusedSimpArgs false
set_option linter.unusedVariables false
open Go.RowKit
set_option maxHeartbeats 1000000
set_option maxRecDepth 100000
attribute [local go_sem ↓] Go.wp_at_zero Go.wp_at_succ
variable {D D' D'':Nat→Prop} {g q q':Nat} {w w':World}
theorem l3Texts_t (w:World):Calls Tryz.prog 142 #[] w (TextsEnd w):=by
 go_enter Tryz.func142,Tryz.ntmps142
 go_wp2_with fail
 go_ret
 refine TextsEnd.mk w _ rfl ?_ ?_ ?_
 all_goals decide
theorem l3Draw_t (h:St D g q w) (hq:q+43000≤1000000) :
  Calls Tryz.prog 81 #[.pointer (some ⟨g,0,none⟩)] w (Drawn D g q 43000 w AutoT):=by
 have hg:=h.g_lt
 have hd:=fun x hx=>(h.dom x hx).2
 have B0:=Box.new h #[.int .i64 0,.slice none 0 0,.slice none 0 0] 26
 go_enter Tryz.func81,Tryz.ntmps81
 go_wp2_with fail
 generalize w.alloc (.cells #[.int .i64 0,.slice none 0 0,.slice none 0 0] 26)=w1 at B0⊢
 refine (pick_t 3 B0.st (by omega) (by omega)).mono ?_
 rintro e w2 ⟨x,rfl,-,-,hs2,hk2⟩
 have B1:=B0.kept hg hk2 (c':=1) hs2
 clear hs2 hk2 B0
 by_cases hx:x=0
 ·subst hx
  go_wp2_with fail
  refine (l3Texts_t w2).mono ?_
  rintro e w3 ⟨c3,l,rfl,hl0,hl1,hls,hv3,he3⟩
  have B2:=B1.ext he3
  go_wp2_with fail
  refine (of_t _ l c3 w2.heap.size rfl B2.st (by omega) hv3 B1.st.g_lt hl0 hl1).mono ?_
  rintro e w4 ⟨t,ht,rfl,hs4,hk4⟩
  have B3:=B2.kept hg hk4 (c':=2) hs4
  have ht2:=hls t ht
  clear hs4 hk4 hv3 hls he3
  go_wp2_with fail
  refine (ParseAutomaton_t t ht2 B3.st (by omega)).mono ?_
  rintro e w5 ⟨v5,D5,rfl,hi5,hs5,ht5,u5,b5,rfl,hS⟩
  have B4:=B3.drawn hg hi5 ht5 (c':=42002) (hs5.up (by omega))
  obtain ⟨al,n,m,aN,cN,aA,cA,rfl,hn,hm,hN,hA⟩:=hS.boxed
  have he:=Ext.alloc w5 (.cells #[.int .i64 al,.slice aN n cN,.slice aA m cA] 26)
  have hN:=hN.tr' (Inc.refl _ _) (Tr.ext B4.st he)
  have hA:=hA.tr' (Inc.refl _ _) (Tr.ext B4.st he)
  have ec:=Blk.new w5 #[.int .i64 al,.slice aN n cN,.slice aA m cA] 26
  have B5:=B4.ext he
  have hne:w.heap.size<w5.heap.size:=B4.blk.lt
  clear hs5 ht5 hi5
  go_upto_if 15 with fail
  generalize w5.alloc (.cells #[.int .i64 al,.slice aN n cN,.slice aA m cA] 26)=w6 at B5 hN hA ec⊢
  generalize w5.heap.size=G at ec hne⊢
  have ec0:=ec.cell 0 rfl
  have ec1:=ec.cell 1 rfl
  have ec2:=ec.cell 2 rfl
  cases b5
  ·go_wp2_with fail
   refine (num_t [3,6,7,5,1,0,2] rfl B5.st (by omega) (by decide) (by decide)).mono ?_
   rintro e wa ⟨xa,hxa,rfl,hsa,hka⟩
   have Ba:=B5.kept hg hka (c':=42003) (hsa.up (by omega))
   go_wp2_with fail
   refine (l3Over_t xa Ba.st (by omega)).mono ?_
   rintro e wd ⟨vd,Dd,rfl,hid,hsd,htd,hSd⟩
   have Bd:=Ba.drawn hg hid htd (c':=43000) (hsd.up (by omega))
   obtain ⟨ald,nd,md,aNd,cNd,aAd,cAd,rfl,hnd,hmd,hNd,hAd⟩:=hSd.boxed
   have rc0:=Bd.blk.cell 0 rfl;have rf0:=Bd.blk.fr 0;have rc1:=Bd.blk.cell 1 rfl;have rf1:=Bd.blk.fr 1;have rc2:=Bd.blk.cell 2 rfl;have rf2:=Bd.blk.fr 2
   go_wp2_with fail
   refine bodyPost_ret (v:=.agg #[.int .i64 ald,.slice aNd nd cNd,.slice aAd md cAd]) (by simp [results,Tryz.results81,go_sem,rc0,rc1,rc2,rf0,rf1,rf2]) rfl ?_
   have BZ:=((Bd.set hg hd (Nat.le_refl _) 0 (.int .i64 ald)).set hg hd (Nat.le_refl _) 1 (.slice aNd nd cNd)).set hg hd (Nat.le_refl _) 2 (.slice aAd md cAd)
   have oZ:=Bd.out
   exact ⟨_,Dd,rfl,BZ.inc,BZ.st.up (by omega),BZ.tr,_,_,_,_,_,rfl,by omega,by omega,(((hNd.tr (fun _ h=>h) (Shp.box oZ)).tr (fun _ h=>h) (Shp.box oZ)).tr (fun _ h=>h) (Shp.box oZ)),(((hAd.tr (fun _ h=>h) (Shp.box oZ)).tr (fun _ h=>h) (Shp.box oZ)).tr (fun _ h=>h) (Shp.box oZ))⟩
  ·have rc0:=B5.blk.cell 0 rfl;have rf0:=B5.blk.fr 0;have rc1:=B5.blk.cell 1 rfl;have rf1:=B5.blk.fr 1;have rc2:=B5.blk.cell 2 rfl;have rf2:=B5.blk.fr 2
   go_wp2_with fail
   refine bodyPost_ret (v:=.agg #[.int .i64 al,.slice aN n cN,.slice aA m cA]) (by simp [results,Tryz.results81,go_sem,rc0,rc1,rc2,rf0,rf1,rf2]) rfl ?_
   have BZ:=((B5.set hg hd (Nat.le_refl _) 0 (.int .i64 al)).set hg hd (Nat.le_refl _) 1 (.slice aN n cN)).set hg hd (Nat.le_refl _) 2 (.slice aA m cA)
   have oZ:=B5.out
   exact ⟨_,_,rfl,BZ.inc,BZ.st.up (by omega),BZ.tr,_,_,_,_,_,rfl,by omega,by omega,(((hN.tr (fun _ h=>h) (Shp.box oZ)).tr (fun _ h=>h) (Shp.box oZ)).tr (fun _ h=>h) (Shp.box oZ)),(((hA.tr (fun _ h=>h) (Shp.box oZ)).tr (fun _ h=>h) (Shp.box oZ)).tr (fun _ h=>h) (Shp.box oZ))⟩
 ·have hx':((x:Int)==0)=false:=beq_eq_false_iff_ne.2 (by omega)
  go_wp2_with fail
  refine (num_t [3,6,7,5,1,0,2] rfl B1.st (by omega) (by decide) (by decide)).mono ?_
  rintro e wa ⟨xa,hxa,rfl,hsa,hka⟩
  have Ba:=B1.kept hg hka (c':=2) (hsa.up (by omega))
  go_wp2_with fail
  refine (l3Over_t xa Ba.st (by omega)).mono ?_
  rintro e wd ⟨vd,Dd,rfl,hid,hsd,htd,hSd⟩
  have Bd:=Ba.drawn hg hid htd (c':=43000) (hsd.up (by omega))
  obtain ⟨ald,nd,md,aNd,cNd,aAd,cAd,rfl,hnd,hmd,hNd,hAd⟩:=hSd.boxed
  have rc0:=Bd.blk.cell 0 rfl;have rf0:=Bd.blk.fr 0;have rc1:=Bd.blk.cell 1 rfl;have rf1:=Bd.blk.fr 1;have rc2:=Bd.blk.cell 2 rfl;have rf2:=Bd.blk.fr 2
  go_wp2_with fail
  refine bodyPost_ret (v:=.agg #[.int .i64 ald,.slice aNd nd cNd,.slice aAd md cAd]) (by simp [results,Tryz.results81,go_sem,rc0,rc1,rc2,rf0,rf1,rf2]) rfl ?_
  have BZ:=((Bd.set hg hd (Nat.le_refl _) 0 (.int .i64 ald)).set hg hd (Nat.le_refl _) 1 (.slice aNd nd cNd)).set hg hd (Nat.le_refl _) 2 (.slice aAd md cAd)
  have oZ:=Bd.out
  exact ⟨_,Dd,rfl,BZ.inc,BZ.st.up (by omega),BZ.tr,_,_,_,_,_,rfl,by omega,by omega,(((hNd.tr (fun _ h=>h) (Shp.box oZ)).tr (fun _ h=>h) (Shp.box oZ)).tr (fun _ h=>h) (Shp.box oZ)),(((hAd.tr (fun _ h=>h) (Shp.box oZ)).tr (fun _ h=>h) (Shp.box oZ)).tr (fun _ h=>h) (Shp.box oZ))⟩
end Go.Proofs.YtccklliljdembaaGreatDoor
