import Derived.Test.YtccklliljdembaaGreatDoorRows
import Derived.Test.YtccklliljdembaaGreatDoorLaws
import Derived.Test.YtccklliljdembaaGreatDoorPlain2
namespace Go.Proofs.YtccklliljdembaaGreatDoor
set_option linter.unusedSimpArgs false
set_option linter.unusedVariables false
open Go.RowKit
set_option maxHeartbeats 400000
theorem isAlphabet_c (a:Int) (w:World):Calls Tryz.prog 65 #[.int .i64 a] w (Same (.bool (isAlpha a)) w):=by
 by_cases h:0≤a
 ·go_enter Tryz.func65,Tryz.ntmps65
  go_wp2
  go_ret
  exact ⟨by simp [isAlpha,h],rfl⟩
 ·go_enter Tryz.func65,Tryz.ntmps65
  go_wp2
  go_ret
  exact ⟨by simp [isAlpha];omega,rfl⟩
theorem l1Alphabet_c (a:Int) (w:World):Calls Tryz.prog 114 #[.int .i64 a] w (Same (.bool (isAlpha a)) w):=by
 by_cases h:0≤a
 ·go_enter Tryz.func114,Tryz.ntmps114
  go_wp2
  go_ret
  exact ⟨by simp [isAlpha,h],rfl⟩
 ·go_enter Tryz.func114,Tryz.ntmps114
  go_wp2
  go_ret
  exact ⟨by simp [isAlpha];omega,rfl⟩
theorem has_c (s n:Int) (w:World) (hs:0≤s) (hs2:s≤9223372036854775807) (hn:n<64) :
  Calls Tryz.prog 74 #[.int .i64 s,.int .i64 n] w (Same (.bool (bit s n)) w):=by
 by_cases h:0≤n
 ·go_enter Tryz.func74,Tryz.ntmps74
  go_wp2
  go_ret
  exact ⟨by rw [bit_nonneg h,←has_bit s n hs hs2];rfl,rfl⟩
 ·have h:n<0:=by omega
  go_enter Tryz.func74,Tryz.ntmps74
  go_wp2
  go_ret
  exact ⟨by rw [bit_neg h];rfl,rfl⟩
theorem l1Has_c (s n:Int) (w:World) (hs:0≤s) (hs2:s≤9223372036854775807) (h:0≤n) (hn:n<64) :
  Calls Tryz.prog 182 #[.int .i64 s,.int .i64 n] w (Same (.bool (bit s n)) w):=by
 go_enter Tryz.func182,Tryz.ntmps182
 go_wp2
 go_ret
 exact ⟨by rw [bit_nonneg h,←has_bit s n hs hs2];rfl,rfl⟩
theorem infoInt:(Tryz.prog.info? 3).map (fun i=>(i.zero,i.size,i.bytes))=some (some (.int .i64 0),1,8):=by kernel_rfl
theorem lettersOf_o (a:Int) (w:World) (ha:0≤a) (ha2:a≤63) :
  Calls Tryz.prog 50 #[.int .i64 a] w (Gives (fun v w'=>IntsOwn 3 w.heap.size w' v (letters a)) w):=by
 go_enter Tryz.func50,Tryz.ntmps50
 go_wp2_with fail
 go_loopw [3,5] (fun v i wr=>∃k:Nat,k≤6∧i=.int .i64 k∧IntsOwn 3 w.heap.size wr v (lettersTo a k)∧Ext w wr) (fun _ i _=>6-(intOf i).toNat)
 case atStart=>exact ⟨0,by omega,rfl,IntsOwn.nil _ _ _,Ext.refl _⟩
 case round=>
  obtain ⟨k,hk,rfl,hown,hext⟩:=hrel
  have hsz:=hext.size
  by_cases hlt:k<6
  ·have HS:=Lib.hid (lettersTo_succ a k)
   have hlen:=lettersTo_len a k
   by_cases hb:bit a k=true
   ·go_wp2_with (first | (go_at_call 74;refine (has_c _ _ _ (by omega) (by omega) (by omega)).mono ?_;rintro e w' ⟨rfl,rfl⟩) | (at_builtin;refine app1 rfl rfl Tryz.underlying78 infoInt rfl (by decide) hown.own rfl rfl rfl (by simp [Value.oneCell']) (by omega) (by decide) (by omega) ?_;intro v1 w1 hown1 hgr1 hbl1))
    exact ⟨⟨k+1,by omega,by go_num,IntsOwn.push hown1 (by rw [HS.out,if_pos hb]),Below.trans hext hbl1⟩,by simp [intOf];omega⟩
   ·go_wp2_with (first | (go_at_call 74;refine (has_c _ _ _ (by omega) (by omega) (by omega)).mono ?_;rintro e w' ⟨rfl,rfl⟩))
    exact ⟨⟨k+1,by omega,by go_num,by rw [HS.out,if_neg hb,List.append_nil];exact hown,hext⟩,by simp [intOf];omega⟩
  ·obtain rfl:k=6:=by omega
   go_wp2_with fail
   go_ret
   exact Gives.mk rfl hext hown
theorem lettersOf_c (a:Int) (w:World) (ha:0≤a) (ha2:a≤63) :
  Calls Tryz.prog 50 #[.int .i64 a] w (Gives (fun v w'=>IntsV w' v (letters a)) w):=
 (lettersOf_o a w ha ha2).mono fun _ _ ⟨v,h1,h2,h3⟩=>⟨v,h1,h2,h3.ints⟩
theorem IntsOwn.lit (e:TypeId) (w:World):IntsOwn e w.heap.size (w.alloc (.cells #[] e)) (.slice (some ⟨w.heap.size,0,none⟩) 0 0) []:=
 World.ownsRow_made w #[] 0 (Nat.le_refl _) (by unfold maxLen;omega) (by simp)
theorem l1Letters_c (a:Int) (w:World) (ha:0≤a) (ha2:a≤63) :
  Calls Tryz.prog 115 #[.int .i64 a] w (Gives (fun v w'=>IntsV w' v (letters a)) w):=by
 go_enter Tryz.func115,Tryz.ntmps115
 go_wp2_with fail
 go_loopw [3,4] (fun v i wr=>∃k:Nat,k≤6∧i=.int .i64 k∧IntsOwn 3 w.heap.size wr v (lettersTo a k)∧Ext w wr) (fun _ i _=>6-(intOf i).toNat)
 case atStart=>exact ⟨0,by omega,rfl,IntsOwn.lit _ _,Ext.alloc _ _⟩
 case round=>
  obtain ⟨k,hk,rfl,hown,hext⟩:=hrel
  have hsz:=hext.size
  by_cases hlt:k<6
  ·have HS:=Lib.hid (lettersTo_succ a k)
   have hlen:=lettersTo_len a k
   by_cases hb:bit a k=true
   ·go_wp2_with (first | (go_at_call 182;refine (l1Has_c _ _ _ (by omega) (by omega) (by omega) (by omega)).mono ?_;rintro e w' ⟨rfl,rfl⟩) | (at_builtin;refine app1 rfl rfl Tryz.underlying78 infoInt rfl (by decide) hown.own rfl rfl rfl (by simp [Value.oneCell']) (by omega) (by decide) (by omega) ?_;intro v1 w1 hown1 hgr1 hbl1))
    exact ⟨⟨k+1,by omega,by go_num,IntsOwn.push hown1 (by rw [HS.out,if_pos hb]),Below.trans hext hbl1⟩,by simp [intOf];omega⟩
   ·go_wp2_with (first | (go_at_call 182;refine (l1Has_c _ _ _ (by omega) (by omega) (by omega) (by omega)).mono ?_;rintro e w' ⟨rfl,rfl⟩))
    exact ⟨⟨k+1,by omega,by go_num,by rw [HS.out,if_neg hb,List.append_nil];exact hown,hext⟩,by simp [intOf];omega⟩
  ·obtain rfl:k=6:=by omega
   go_wp2_with fail
   go_ret
   exact Gives.mk rfl hext hown.ints
def szss (ll:List (List Int)):Nat:=ll.length+(ll.map List.length).sum
def szAuto (a:Auto):Nat:=szss a.next+a.accept.length
theorem infoBool:(Tryz.prog.info? 4).map (fun i=>(i.zero,i.size,i.bytes))=some (some (.bool false),1,1):=by kernel_rfl
theorem infoInts:(Tryz.prog.info? 78).map (fun i=>(i.zero,i.size,i.bytes))=some (some (.slice none 0 0),1,24):=by kernel_rfl
end Go.Proofs.YtccklliljdembaaGreatDoor
namespace Go.Proofs.YtccklliljdembaaGreatDoor
set_option linter.unusedSimpArgs false
set_option linter.unusedVariables false
open Go.RowKit
set_option maxHeartbeats 400000
def AutoOwn (base:Nat) (w:World) (v:Value) (x:Auto):Prop:=∃vn va,v=.agg #[.int .i64 x.alphabet,vn,va]∧IntssOwn 78 3 base w vn x.next∧BoolsOwn 4 base w va x.accept
theorem AutoOwn.auto {base:Nat} {w:World} {v:Value} {x:Auto} (h:AutoOwn base w v x):AutoV w v x:=let ⟨vn,va,e,h1,h2⟩:=h;⟨vn,va,e,h1.intss,h2.bools⟩
theorem IntssOwn.low {e2 e1:TypeId} {base base':Nat} {w:World} {v:Value} {ll:List (List Int)} (h:IntssOwn e2 e1 base w v ll) (hb:base'≤base):IntssOwn e2 e1 base' w v ll:=
 let ⟨vs,h1,h2,h3⟩:=h;⟨vs,own_base h1 hb,⟨h2.len,fun j x l hx hl=>(h2.row j x l hx hl).low hb,h2.apart⟩,h3⟩
theorem AutoOwn.low {base base':Nat} {w:World} {v:Value} {x:Auto} (h:AutoOwn base w v x) (hb:base'≤base):AutoOwn base' w v x:=let ⟨vn,va,e,h1,h2⟩:=h;⟨vn,va,e,h1.low hb,h2.low hb⟩
theorem AutoOwn.ext {base:Nat} {w w':World} {v:Value} {x:Auto} (h:AutoOwn base w v x) (he:Ext w w'):AutoOwn base w' v x:=let ⟨vn,va,e,h1,h2⟩:=h;⟨vn,va,e,h1.ext he,h2.ext he⟩
theorem own_set {w:World} {base:Nat} {e:TypeId} {size n:Nat} {v:Value} {xs:List Value} (h:w.ownsRow base e size v n xs) {p:Addr} (hp:p.block<base) (u:Value):(w.setCell p u).ownsRow base e size v n xs:=ownsRow_setCell_below h hp u
theorem infoEdge:(Tryz.prog.info? 126).map (fun i=>(i.zero,i.size,i.bytes))=some (some (.agg #[.int .i64 0,.int .i64 0,.int .i64 0]),3,24):=by kernel_rfl
def SysOwn (base:Nat) (w:World) (v:Value) (x:Sys):Prop:=∃ve,v=.agg #[.int .i64 x.alphabet,.int .i64 x.states,ve]∧EdgesOwn 126 base w ve x.edges
def TaskOwn (base:Nat) (w:World) (v:Value) (t:Task):Prop:=∃ve vn va,v=.agg #[.int .i64 t.sys.alphabet,.int .i64 t.sys.states,ve,.int .i64 t.prop.alphabet,vn,va,.int .i64 t.alphabet] ∧
 EdgesOwn 126 base w ve t.sys.edges∧IntssOwn 78 3 base w vn t.prop.next∧BoolsOwn 4 base w va t.prop.accept
def TeacherOwn (base:Nat) (w:World) (v:Value) (t:Teacher):Prop:=∃vn va ve vn' va',v=.agg #[.bool t.known,.int .i64 t.target.alphabet,vn,va,.int .i64 t.task.sys.alphabet,.int .i64 t.task.sys.states,ve,.int .i64 t.task.prop.alphabet,vn',va',.int .i64 t.task.alphabet] ∧
 IntssOwn 78 3 base w vn t.target.next∧BoolsOwn 4 base w va t.target.accept∧EdgesOwn 126 base w ve t.task.sys.edges∧IntssOwn 78 3 base w vn' t.task.prop.next∧BoolsOwn 4 base w va' t.task.prop.accept
theorem TeacherOwn.teacher {base:Nat} {w:World} {v:Value} {x:Teacher} (h:TeacherOwn base w v x):TeacherV w v x:=let ⟨a,b,c,d,f,e,h1,h2,h3,h4,h5⟩:=h;⟨a,b,c,d,f,e,h1.intss,h2.bools,h3.edges,h4.intss,h5.bools⟩
end Go.Proofs.YtccklliljdembaaGreatDoor
namespace Go.Proofs.YtccklliljdembaaGreatDoor
set_option linter.unusedSimpArgs false
set_option linter.unusedVariables false
open Go.RowKit
set_option maxHeartbeats 800000
structure Chg (lo hi:Nat) (w w':World):Prop where
 os:w'.os=w.os
 tape:w'.tape=w.tape
 output:w'.output=w.output
 size:w.heap.size≤w'.heap.size
 block:∀b,b<w.heap.size→¬(lo≤b∧b<hi)→w'.heap[b]?=w.heap[b]?
theorem Chg.wide {lo hi lo' hi':Nat} {w w':World} (h:Chg lo hi w w') (h1:lo'≤lo) (h2:hi≤hi'):Chg lo' hi' w w':=
 ⟨h.os,h.tape,h.output,h.size,fun b hb hn=>h.block b hb fun e=>hn ⟨by omega,by omega⟩⟩
def markI (n:Int) (j:Nat):Value:=.int .i64 (n+j)
def Marked (e:TypeId) (size base:Nat) (w:World) (v:Value) (n:Nat) (f:Nat→Value):Prop:=w.ownsRow base e size v n ((List.range (n*size)).map f)
theorem own_some {w:World} {base:Nat} {e:TypeId} {size n:Nat} {a:Option Addr} {c:Nat} {xs:List Value} (h:w.ownsRow base e size (.slice a n c) n xs) (hn:0<n):∃g,a=some ⟨g,0,none⟩∧base≤g:=by
 rcases own_shape h with ⟨_,rfl⟩ | ⟨g,cap,he,hb,_⟩
 ·omega
 ·cases he;exact ⟨g,rfl,hb⟩
structure Tnd (S:Nat→Prop) (w w':World):Prop where
 os:w'.os=w.os
 tape:w'.tape=w.tape
 output:w'.output=w.output
 size:w.heap.size≤w'.heap.size
 block:∀b,b<w.heap.size→¬S b→w'.heap[b]?=w.heap[b]?
theorem Tnd.refl (S:Nat→Prop) (w:World):Tnd S w w:=⟨rfl,rfl,rfl,Nat.le_refl _,fun _ _ _=>rfl⟩
theorem Tnd.trans {S:Nat→Prop} {a b c:World} (h:Tnd S a b) (k:Tnd S b c):Tnd S a c:=
 ⟨k.os.trans h.os,k.tape.trans h.tape,k.output.trans h.output,Nat.le_trans h.size k.size,fun i hi hn=>(k.block i (Nat.lt_of_lt_of_le hi h.size) hn).trans (h.block i hi hn)⟩
theorem Tnd.ext {S:Nat→Prop} {w w':World} (h:Ext w w'):Tnd S w w':=⟨h.os,h.tape,h.output,h.size,fun b hb _=>h.block b hb⟩
theorem Tnd.grown {S:Nat→Prop} {row:Option Nat} {w w':World} (h:w.grownBy w' row) (hS:∀g,row=some g→S g):Tnd S w w':=
 ⟨h.os,h.tape,h.output,h.size,fun b hb hn=>h.block b hb (fun e=>hn (hS b e.symm))⟩
theorem Tnd.imp {S S':Nat→Prop} {w w':World} (h:Tnd S w w') (hS:∀b,S b→S' b):Tnd S' w w':=⟨h.os,h.tape,h.output,h.size,fun b hb hn=>h.block b hb fun e=>hn (hS b e)⟩
theorem Tnd.below {S:Nat→Prop} {lo:Nat} {w w':World} (h:Tnd S w w') (hl:lo≤w.heap.size) (hS:∀b,S b→lo≤b):Below lo w w':=
 ⟨h.os,h.tape,h.output,h.size,fun b hb=>h.block b (by omega) fun e=>by have:=hS b e;omega⟩
theorem Tnd.own {S:Nat→Prop} {base:Nat} {w w':World} {e:TypeId} {size n:Nat} {v:Value} {xs:List Value} (h:Tnd S w w') (ho:w.ownsRow base e size v n xs) (hv:∀g,v.ownBlock=some g→¬S g):w'.ownsRow base e size v n xs:=by
 refine ⟨ho.1,?_⟩
 rcases ho.2 with h1 | ⟨g,cap,cur,rfl,hb,hg,r⟩
 ·exact .inl h1
 ·exact .inr ⟨g,cap,cur,rfl,hb,by rw [h.block g (Array.getElem?_eq_some_iff.1 hg).1 (hv g rfl)];exact hg,r⟩
def SlB (v:Value) (b:Nat):Prop:=v.ownBlock=some b
def sumTo (ks:List Nat) (j:Nat):Nat:=(ks.take j).sum
structure RowsMk (base:Nat) (w:World) (v:Value) (vs:List Value) (ks:List Nat) (n:Int) (j:Nat):Prop where
 own:w.ownsRow base 78 1 v ks.length vs
 row:∀(i:Nat) x k,vs[i]?=some x→ks[i]?=some k→∃xs,w.ownsRow base 3 1 x k xs
 apart:∀(i i':Nat) x y g,i≠i'→vs[i]?=some x→vs[i']?=some y→x.ownBlock=some g→y.ownBlock≠some g
 marks:∀(i:Nat) x k,i<j→vs[i]?=some x→ks[i]?=some k→Marked 3 1 base w x k (markI (n+sumTo ks i))
theorem Blk.tnd {S:Nat→Prop} {w w':World} {b:Nat} {cs:Array Value} {t:TypeId} (h:Blk w b cs t) (ht:Tnd S w w') (hb:¬S b):Blk w' b cs t:=(ht.block b h.lt hb).trans h
end Go.Proofs.YtccklliljdembaaGreatDoor
