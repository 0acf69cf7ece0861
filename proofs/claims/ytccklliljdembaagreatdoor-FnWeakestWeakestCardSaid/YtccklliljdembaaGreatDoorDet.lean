import Derived.Test.YtccklliljdembaaGreatDoorWalkFB
import Derived.BigRegion
namespace Go.Proofs.YtccklliljdembaaGreatDoor
set_option linter.unusedSimpArgs false
set_option linter.unusedVariables false
open Go.RowKit
set_option maxHeartbeats 1600000
set_option maxRecDepth 100000
structure NetOk (n:Net):Prop where
 parts:∀s∈n.parts,sysValid s=true
 autos:∀a∈n.autos,AutoFit a
 np:n.parts.length≤3
 na:n.autos.length≤2
 al:0≤n.letters∧n.letters≤63
 el:∀s∈n.parts,s.edges.length≤1048576
 tot:(sizesOf n).prod≤268435456
theorem l4In_c (v:Value) (l:List Int) (x:Int) (w:World) (hv:IntsV w v l) (hl:l.length≤4294967296) :
  Calls Tryz.prog 149 #[v,.int .i64 x] w (Same (.bool (decide (x∈l))) w):=by
 obtain ⟨a,c,rfl,-,h2⟩:=hv.open
 go_enter Tryz.func149,Tryz.ntmps149
 go_wp2_with fail
 go_loop [5] (fun i=>∃k:Nat,k≤l.length∧i=.int .i64 k∧Hid (x∉l.take k)) (fun i=>l.length-(intOf i).toNat)
 case atStart=>exact ⟨0,by omega,rfl,Lib.hid (by simp)⟩
 case round=>
  obtain ⟨k,hk,rfl,hno⟩:=hrel
  by_cases hlt:k<l.length
  ·obtain ⟨y,hy⟩:∃y,l[k]?=some y:=⟨_,List.getElem?_eq_getElem hlt⟩
   obtain ⟨b,off,rfl,-,hc⟩:=h2 k y hy
   have g1:=hc k y hy
   unfold IntAt at g1
   rw [Nat.mul_one] at g1
   have HY:=Lib.hid hy
   clear hc hy h2
   by_cases hxy:y=x
   ·subst hxy
    go_wp2_with fail
    go_ret
    exact Same.mk (by simp [List.mem_of_getElem? HY.out])
   ·go_wp2_with fail
    refine ⟨⟨k+1,by omega,by go_num,Lib.hid ?_⟩,by simp [intOf];omega⟩
    rw [List.take_add_one,HY.out]
    intro hm
    rcases List.mem_append.1 hm with hm | hm
    ·exact hno.out hm
    ·simp at hm;exact hxy hm.symm
  ·obtain rfl:k=l.length:=by omega
   go_wp2_with fail
   go_ret
   have:=hno.out
   rw [List.take_length] at this
   exact Same.mk (by simp [this])
end Go.Proofs.YtccklliljdembaaGreatDoor
namespace Go.Proofs.YtccklliljdembaaGreatDoor
set_option linter.unusedSimpArgs false
set_option linter.unusedVariables false
open Go.RowKit
set_option maxHeartbeats 1600000
set_option maxRecDepth 100000
theorem l1Letters_o (a:Int) (w:World) (ha:0≤a) (ha2:a≤63) :
  Calls Tryz.prog 115 #[.int .i64 a] w (Gives (fun v w'=>IntsOwn 3 w.heap.size w' v (letters a)) w):=by
 go_enter Tryz.func115,Tryz.ntmps115
 go_wp2_with fail
 go_loopw [3,4] (fun v i wr=>∃k:Nat,k≤6∧i=.int .i64 k∧IntsOwn 3 w.heap.size wr v (lettersTo a k)∧Ext w wr) (fun _ i _=>6-(intOf i).toNat)
 case atStart=>exact ⟨0,by omega,rfl,IntsOwn.lit _ _,Ext.alloc _ _⟩
 case round=>
  obtain ⟨k,hk,rfl,hown,hext⟩:=hrel
  have hsz:=hext.size
  by_cases hlt:k<6
  ·have HS:=Lib.hid (lettersTo_succ a k)
   have hlen:=lettersTo_len a k
   by_cases hb:bit a k=true
   ·go_wp2_with (first | (go_at_call 182;refine (l1Has_c _ _ _ (by omega) (by omega) (by omega) (by omega)).mono ?_;rintro e w' ⟨rfl,rfl⟩) | (at_builtin;refine app1 rfl rfl Tryz.underlying78 infoInt rfl (by decide) hown.own rfl rfl rfl (by simp [Value.oneCell']) (by omega) (by decide) (by omega) ?_;intro v1 w1 hown1 hgr1 hbl1))
    exact ⟨⟨k+1,by omega,by go_num,IntsOwn.push hown1 (by rw [HS.out,if_pos hb]),Below.trans hext hbl1⟩,by simp [intOf];omega⟩
   ·go_wp2_with (first | (go_at_call 182;refine (l1Has_c _ _ _ (by omega) (by omega) (by omega) (by omega)).mono ?_;rintro e w' ⟨rfl,rfl⟩))
    exact ⟨⟨k+1,by omega,by go_num,by rw [HS.out,if_neg hb,List.append_nil];exact hown,hext⟩,by simp [intOf];omega⟩
  ·obtain rfl:k=6:=by omega
   go_wp2_with fail
   go_ret
   exact Gives.mk rfl hext hown
theorem nodup_len (l:List Nat) (n:Nat) (h:l.Nodup) (hb:∀x∈l,x<n):l.length≤n:=by
 induction n generalizing l with
 | zero=>
  cases l with
  | nil=>simp
  | cons a l=>have:=hb a (by simp);omega
 | succ n ih=>
  have h1:=ih (l.erase n) (h.erase n) fun x hx=>by
   obtain ⟨h2,h3⟩:=(List.Nodup.mem_erase_iff h).1 hx
   have:=hb x h3
   omega
  by_cases hm:n∈l
  ·rw [List.length_erase_of_mem hm] at h1;omega
  ·rw [List.erase_of_not_mem hm] at h1;omega
theorem mem_ints {m:Nat} {l:List Nat}:(m:Int)∈ints l↔m∈l:=by
 unfold ints
 rw [List.mem_map]
 constructor
 ·rintro ⟨x,hx,he⟩
  have:x=m:=by omega
  subst this;exact hx
 ·intro h;exact ⟨m,h,rfl⟩
def unsetN (D:List Int):Nat:=(D.filter fun x=>x == -1).length
def dst (D:List Int) (m:Nat):Int:=D.getD m (-1)
structure Pass (N:Nat→Int→List Nat) (L:List Int) (G:Nat→Bool) (total d i:Nat) (D:List Int) (ch:Bool):Prop where
 len:D.length=total
 lo:∀m,m<i→m<total→Lev N L G ((d:Int)+1) m (dst D m)
 hi:∀m,i≤m→m<total→Lev N L G d m (dst D m)
 calm:ch=false→∀m,m<i→m<total→dst D m≠(d:Int)+1
 un:unsetN D+d+(if ch=true then 1 else 0)≤total
section
variable {N:Nat→Int→List Nat} {L:List Int} {G:Nat→Bool} {total d i:Nat} {D:List Int} {ch:Bool}
end
end Go.Proofs.YtccklliljdembaaGreatDoor
namespace Go.Proofs.YtccklliljdembaaGreatDoor
set_option linter.unusedSimpArgs false
set_option linter.unusedVariables false
open Go.RowKit
set_option maxHeartbeats 1600000
set_option maxRecDepth 100000
theorem IntsV.three (w:World):IntsV (w.alloc (.cells #[.int .i64 0,.int .i64 0,.int .i64 0] 3)) (.slice (some ⟨w.heap.size,0,none⟩) 3 3) [0,0,0]:=by
 have hb:=Blk.new w #[.int .i64 0,.int .i64 0,.int .i64 0] 3
 refine ⟨_,3,rfl,Nat.le_refl _,by decide,fun _=>⟨w.heap.size,0,rfl,by simp,fun i x hi=>?_⟩⟩
 match i,hi with
 | 0,hi=>simp at hi;subst hi;exact hb.cell 0 rfl
 | 1,hi=>simp at hi;subst hi;exact hb.cell 1 rfl
 | 2,hi=>simp at hi;subst hi;exact hb.cell 2 rfl
 | i+3,hi=>simp at hi
end Go.Proofs.YtccklliljdembaaGreatDoor
namespace Go.Proofs.YtccklliljdembaaGreatDoor
set_option linter.unusedSimpArgs false
set_option linter.unusedVariables false
open Go.RowKit
open Classical in
noncomputable def vuOf (s:Sys) (a p:Auto):Option (List Int):=if h:∃r,VU s a p r then h.choose else none
theorem VU.of {s:Sys} {a p:Auto} {r:Option (List Int)} (h:VU s a p r):vuOf s a p=r:=by
 unfold vuOf;rw [dif_pos ⟨r,h⟩];exact (Exists.choose_spec (⟨r,h⟩:∃r,VU s a p r)).unique h
noncomputable def underB (s:Sys) (a p:Auto):Bool:=sysValid s&&autoValid a&&autoValid p && !(vuOf s a p).isSome
theorem KeepsUnder_cd (v va vp:Value) (s:Sys) (a p:Auto) (w:World) (hv:SysV w v s) (hva:AutoV w va a) (hp:AutoV w vp p) (hT:Deb w) :
  Calls Tryz.prog 16 #[v,va,vp] w (Grows (.bool (underB s a p)) w):=
 (KeepsUnder_c v va vp s a p w hv hva hp hT).mono (by rintro e w' ⟨r,hr,rfl,he⟩;unfold underB;rw [hr.of];exact Grows.mk rfl he)
end Go.Proofs.YtccklliljdembaaGreatDoor
