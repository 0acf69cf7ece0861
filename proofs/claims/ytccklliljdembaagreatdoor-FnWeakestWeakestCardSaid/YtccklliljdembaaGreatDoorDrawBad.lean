import Derived.Test.YtccklliljdembaaGreatDoorDrawV
import Derived.Deep.CutBlock
import Derived.Deep.DeepCutAuto
namespace Go.Proofs.YtccklliljdembaaGreatDoor
set_option linter.unusedSimpArgs false
set_option linter.unusedVariables false
open Go.RowKit
set_option maxHeartbeats 1000000
set_option maxRecDepth 100000
attribute [local go_sem ↓] Go.wp_at_zero Go.wp_at_succ
variable {D D' D'':Nat→Prop} {g q q':Nat} {w w':World}
theorem l19Many_t (s:ByteArray) (n:Nat) (w:World) (hs:s.size≤1) (hn:n≤100000) :
  Calls Tryz.prog 125 #[.string s,.int .i64 n] w (fun e w'=>∃t,e=.returned (.string t)∧t.size≤n∧w=w'):=by
 go_enter Tryz.func125,Tryz.ntmps125
 go_wp2_with fail
 go_loopw [0,1,5] (fun u i o wr=>∃(k z:Nat) (us os:ByteArray),u=.string us∧i=.int .i64 k∧o=.string os∧k≤100000∧us.size≤z∧os.size+k*z≤n∧w=wr) (fun _ i _ _=>(intOf i).toNat)
 case atStart=>exact ⟨n,1,s,_,rfl,rfl,rfl,hn,hs,by show 0+n*1≤n;omega,rfl⟩
 case round=>
  obtain ⟨k,z,us,os,rfl,rfl,rfl,hk,hu,ho,rfl⟩:=hrel
  by_cases h0:k=0
  ·subst h0
   go_wp2_with fail
   go_ret
   exact ⟨os,rfl,by omega,rfl⟩
  ·have hk0:(0:Int)<(k:Int):=by omega
   have hz:z≤k*z:=Nat.le_mul_of_pos_left _ (by omega)
   have hmod:Int.tmod (k:Int) 2=((k % 2:Nat):Int):=tmod_cast k 2
   have hdiv:Int.tdiv (k:Int) 2=((k / 2:Nat):Int):=tdiv_cast k 2
   have hov1:¬9223372036854775807<os.size+us.size:=by omega
   have hov2:¬9223372036854775807<us.size+us.size:=by omega
   have e:k*z=(k / 2)*(2*z)+(k % 2)*z:=by
    have h:=Nat.div_add_mod k 2
    calc k*z=(2*(k / 2)+k % 2)*z:=by rw [h]
     _=_:=by rw [Nat.add_mul,Nat.mul_comm 2 (k / 2),Nat.mul_assoc]
   have HE:=Lib.hid e
   have HOO:=Lib.hid ho
   clear e ho
   obtain ⟨Q,hQ⟩:∃Q,Q=k / 2:=⟨_,rfl⟩
   have HQ:=Lib.hid hQ
   have hQk:Q<k:=by omega
   have hQb:Q≤100000:=by omega
   rw [←hQ] at hdiv
   have hdiv2:(k:Int) / 2=(Q:Int):=by omega
   have hwQ:wrap64 (Q:Int)=(Q:Int):=IntWalk.wrap64_in _ (by omega)
   have hzz:=Lib.hid hz
   clear hQ hz
   by_cases h1:k % 2=1
   ·have H1:=Lib.hid h1
    rw [h1] at hmod
    clear h1
    have hm1:(((1:Nat):Int)==1)=true:=rfl
    have HKK:=Lib.hid hk
    have HUU:=Lib.hid hu
    have HQB:=Lib.hid hQb
    have HQK:=Lib.hid hQk
    clear hk hu hQb hQk hdiv2 h0 hs hn
    go_upto_region 6 with fail
    have ha:(us++us).size≤2*z:=by have:=HUU.out;rw [ByteArray.size_append];omega
    have HA2:=Lib.hid ha
    have hb:(os++us).size+Q*(2*z)≤n:=by have h2:=HE.out;rw [H1.out,←HQ.out] at h2;have h3:=HOO.out;have:=HUU.out;rw [ByteArray.size_append];omega
    have HB2:=Lib.hid hb
    clear ha hb hov1 hov2
    generalize us++us=us2 at HA2⊢
    generalize os++us=os2 at HB2⊢
    go_wp2_with fail
    rw [hwQ]
    exact ⟨⟨Q,2*z,_,_,rfl,rfl,rfl,HQB.out,HA2.out,HB2.out,trivial⟩,by have:=HQK.out;simp [intOf];omega⟩
   ·have h1:k % 2=0:=by omega
    have H1:=Lib.hid h1
    rw [h1] at hmod
    clear h1
    have hm1:(((0:Nat):Int)==1)=false:=rfl
    have HKK:=Lib.hid hk
    have HUU:=Lib.hid hu
    have HQB:=Lib.hid hQb
    have HQK:=Lib.hid hQk
    clear hk hu hQb hQk hdiv2 h0 hs hn
    go_upto_region 6 with fail
    have ha:(us++us).size≤2*z:=by have:=HUU.out;rw [ByteArray.size_append];omega
    have HA2:=Lib.hid ha
    have hb:os.size+Q*(2*z)≤n:=by have h2:=HE.out;rw [H1.out,←HQ.out] at h2;have h3:=HOO.out;omega
    have HB2:=Lib.hid hb
    clear ha hb hov1 hov2
    generalize us++us=us2 at HA2⊢
    go_wp2_with fail
    rw [hwQ]
    exact ⟨⟨Q,2*z,_,_,rfl,rfl,rfl,HQB.out,HA2.out,HB2.out,trivial⟩,by have:=HQK.out;simp [intOf];omega⟩
theorem of_six (x0 x1 x2 x3 x4 x5:ByteArray) (hx0:x0.size≤200) (hx1:x1.size≤200) (hx2:x2.size≤200) (hx3:x3.size≤200) (hx4:x4.size≤200) (hx5:x5.size≤200) (h:St D g q w) (hq:q+1≤1000000) :
  Calls Tryz.prog 105 #[.pointer (some ⟨g,0,none⟩),.slice (some ⟨w.heap.size,0,none⟩) 6 6] (w.alloc (.cells #[.string x0,.string x1,.string x2,.string x3,.string x4,.string x5] 9)) (fun e w'=>∃x,x.size≤200∧e=.returned (.string x)∧St D g (q+1) w'∧Kept g w w'):=by
 have hv:SlV StrAt 1 (w.alloc (.cells #[.string x0,.string x1,.string x2,.string x3,.string x4,.string x5] 9)) (.slice (some ⟨w.heap.size,0,none⟩) 6 6) [x0,x1,x2,x3,x4,x5]:=by
  refine ⟨_,6,rfl,Nat.le_refl _,by unfold maxLen;simp,fun _=>⟨w.heap.size,0,rfl,by simp,fun i u hu=>?_⟩⟩
  unfold StrAt
  refine (Blk.new w _ _).cell _ ?_
  match i,hu with
  | 0,hu=>simp at hu;subst hu;rfl
  | 1,hu=>simp at hu;subst hu;rfl
  | 2,hu=>simp at hu;subst hu;rfl
  | 3,hu=>simp at hu;subst hu;rfl
  | 4,hu=>simp at hu;subst hu;rfl
  | 5,hu=>simp at hu;subst hu;rfl
  | n+6,hu=>simp at hu
 have:=of_t (.slice (some ⟨w.heap.size,0,none⟩) 6 6) [x0,x1,x2,x3,x4,x5] 6 w.heap.size rfl (h.ext (Ext.alloc w _)) hq hv h.g_lt (by simp) (by simp)
 refine this.mono fun e w' ⟨u,hu,h1,h2,h3⟩=>⟨u,?_,h1,h2,(Tnd.ext (Ext.alloc _ _)).trans h3⟩
 have hu':u=x0∨u=x1∨u=x2∨u=x3∨u=x4∨u=x5:=by simpa using hu
 rcases hu' with rfl | rfl | rfl | rfl | rfl | rfl <;> assumption
theorem of_four (x0 x1 x2 x3:ByteArray) (hx0:x0.size≤200) (hx1:x1.size≤200) (hx2:x2.size≤200) (hx3:x3.size≤200) (h:St D g q w) (hq:q+1≤1000000) :
  Calls Tryz.prog 105 #[.pointer (some ⟨g,0,none⟩),.slice (some ⟨w.heap.size,0,none⟩) 4 4] (w.alloc (.cells #[.string x0,.string x1,.string x2,.string x3] 9)) (fun e w'=>∃x,x.size≤200∧e=.returned (.string x)∧St D g (q+1) w'∧Kept g w w'):=by
 have hv:SlV StrAt 1 (w.alloc (.cells #[.string x0,.string x1,.string x2,.string x3] 9)) (.slice (some ⟨w.heap.size,0,none⟩) 4 4) [x0,x1,x2,x3]:=by
  refine ⟨_,4,rfl,Nat.le_refl _,by unfold maxLen;simp,fun _=>⟨w.heap.size,0,rfl,by simp,fun i u hu=>?_⟩⟩
  unfold StrAt
  refine (Blk.new w _ _).cell _ ?_
  match i,hu with
  | 0,hu=>simp at hu;subst hu;rfl
  | 1,hu=>simp at hu;subst hu;rfl
  | 2,hu=>simp at hu;subst hu;rfl
  | 3,hu=>simp at hu;subst hu;rfl
  | n+4,hu=>simp at hu
 have:=of_t (.slice (some ⟨w.heap.size,0,none⟩) 4 4) [x0,x1,x2,x3] 4 w.heap.size rfl (h.ext (Ext.alloc w _)) hq hv h.g_lt (by simp) (by simp)
 refine this.mono fun e w' ⟨u,hu,h1,h2,h3⟩=>⟨u,?_,h1,h2,(Tnd.ext (Ext.alloc _ _)).trans h3⟩
 have hu':u=x0∨u=x1∨u=x2∨u=x3:=by simpa using hu
 rcases hu' with rfl | rfl | rfl | rfl <;> assumption
theorem l1Bad_t (s:ByteArray) (hs:s.size≤100) (h:St D g q w) (hq:q+3≤1000000) :
  Calls Tryz.prog 63 #[.pointer (some ⟨g,0,none⟩),.string s] w (Drawn D g q 3 w fun _ _ _ v=>∃t,v=.string t∧t.size≤60000):=by
 go_enter Tryz.func63,Tryz.ntmps63
 go_wp2_with fail
 refine (pick_t 24 h (by omega) (by omega)).mono ?_
 rintro e w2 ⟨x,rfl,-,-,hs2,hk2⟩
 have N:=(Bare.new h).kept hk2 (c':=1) hs2
 clear hs2 hk2
 have hx:x=0∨x=1∨x=2∨x=3∨3<x:=by omega
 rcases hx with rfl | rfl | rfl | rfl | hx
 ·go_wp2_with fail
  refine (of_six _ _ _ _ _ _ (by decide) (by decide) (by decide) (by decide) (by decide) (by decide) N.st (by omega)).mono ?_
  rintro e w3 ⟨t,ht,rfl,hs3,hk3⟩
  have N:=N.kept hk3 (c':=2) (hs3.up (by omega))
  have hov:¬9223372036854775807<s.size+t.size:=by omega
  go_wp2_with fail
  go_ret
  exact ⟨_,D,rfl,N.inc,N.st.up (by omega),N.tr,_,rfl,by rw [ByteArray.size_append];omega⟩
 ·go_wp2_with fail
  refine (of_four _ _ _ _ (by decide) (by decide) (by decide) (by decide) N.st (by omega)).mono ?_
  rintro e w3 ⟨t,ht,rfl,hs3,hk3⟩
  have N:=N.kept hk3 (c':=2) (hs3.up (by omega))
  have hov:¬9223372036854775807<t.size+s.size:=by omega
  go_wp2_with fail
  go_ret
  exact ⟨_,D,rfl,N.inc,N.st.up (by omega),N.tr,_,rfl,by rw [ByteArray.size_append];omega⟩
 ·go_wp2_with fail
  refine (num_t [50000,50001,49999,8] rfl N.st (by omega) (by decide) (by decide)).mono ?_
  rintro e w3 ⟨y,hy,rfl,hs3,hk3⟩
  obtain ⟨m,rfl,hm⟩:=nat_of_mem (B:=60000) hy (by decide)
  have N:=N.kept hk3 (c':=2) (hs3.up (by omega))
  go_wp2_with fail
  refine (l19Many_t _ m w3 (by decide) (by omega)).mono ?_
  rintro e w4 ⟨t,rfl,ht,rfl⟩
  go_wp2_with fail
  go_ret
  exact ⟨_,D,rfl,N.inc,N.st.up (by omega),N.tr,_,rfl,by omega⟩
 ·go_wp2_with fail
  refine (num_t [50000,8,7] rfl N.st (by omega) (by decide) (by decide)).mono ?_
  rintro e w3 ⟨y,hy,rfl,hs3,hk3⟩
  obtain ⟨m,rfl,hm⟩:=nat_of_mem (B:=60000) hy (by decide)
  have N:=N.kept hk3 (c':=2) (hs3.up (by omega))
  go_wp2_with fail
  refine (l19Many_t _ m w3 (by decide) (by omega)).mono ?_
  rintro e w4 ⟨t,rfl,ht,rfl⟩
  go_wp2_with fail
  go_ret
  exact ⟨_,D,rfl,N.inc,N.st.up (by omega),N.tr,_,rfl,by omega⟩
 ·have z0:((x:Int)==0)=false:=beq_eq_false_iff_ne.2 (by omega)
  have z1:((x:Int)==1)=false:=beq_eq_false_iff_ne.2 (by omega)
  have z2:((x:Int)==2)=false:=beq_eq_false_iff_ne.2 (by omega)
  have z3:((x:Int)==3)=false:=beq_eq_false_iff_ne.2 (by omega)
  go_wp2_with fail
  go_ret
  exact ⟨_,D,rfl,N.inc,N.st.up (by omega),N.tr,_,rfl,by omega⟩
end Go.Proofs.YtccklliljdembaaGreatDoor
