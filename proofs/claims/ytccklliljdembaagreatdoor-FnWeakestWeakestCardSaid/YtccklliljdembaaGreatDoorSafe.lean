import Derived.Test.YtccklliljdembaaGreatDoorWalkR
import Derived.Test.YtccklliljdembaaGreatDoorWalkK
import Derived.Deep.CutBlock
import Derived.Deep.DeepCutAuto
import Derived.Test.YtccklliljdembaaGreatDoorPlainC
import Derived.Test.YtccklliljdembaaGreatDoorWalkP
namespace Go.Proofs.YtccklliljdembaaGreatDoor
set_option linter.unusedSimpArgs false
set_option linter.unusedVariables false
open Go.RowKit
set_option maxHeartbeats 1600000
set_option maxRecDepth 100000
theorem sum_six' (ll:List (List Int)) (h:∀r∈ll,r.length≤6):(ll.map List.length).sum≤ll.length*6:=by
 induction ll with
 | nil=>simp
 | cons r ll ih=>
  have h1:=h r (by simp)
  have h2:=ih fun x hx=>h x (by simp [hx])
  simp only [List.map_cons,List.sum_cons,List.length_cons];omega
theorem row_six {x:Auto} (hx:autoValid x=true):∀r∈x.next,r.length≤6:=fun r hr=>by
 obtain ⟨i,hi,rfl⟩:=List.getElem_of_mem hr
 obtain ⟨row,h1,h2,-⟩:=autoValid_row hx hi
 rw [List.getElem?_eq_getElem hi] at h1
 cases h1
 rw [h2];exact lettersTo_len _ 6
theorem szAuto_valid' {x:Auto} (hx:autoValid x=true):szAuto x≤1048576:=by
 have h1:=sum_six' x.next (row_six hx)
 have h2:=autoValid_facts hx
 unfold szAuto szss;omega
theorem RowsAre.storeAt {e:TypeId} {base:Nat} {w:World} {vs:List Value} {ll:List (List Int)} (h:RowsAre e base w vs ll) {k g n cap:Nat} (hv:vs[k]?=some (.slice (some ⟨g,0,none⟩) n cap)) {l:List Int} (hl:ll[k]?=some l) (j:Nat) (y:Int) :
  RowsAre e base (w.setCell ⟨g,j,none⟩ (.int .i64 y)) vs (ll.set k (l.set j y)):=by
 have hk:=h.row k _ l hv hl
 have hkl:k<ll.length:=(List.getElem?_eq_some_iff.1 hl).1
 obtain rfl:n=l.length:=by
  rcases own_shape hk with ⟨e1,_⟩ | ⟨g',cap',e1,_⟩
  ·cases e1
  ·cases e1;rfl
 obtain ⟨o1,o2⟩:=World.ownsRow.stored hk j (.int .i64 y)
 refine ⟨by simp [h.len],fun i x l' hx hl'=>?_,h.apart⟩
 by_cases hik:i=k
 ·subst hik
  rw [hv] at hx;cases hx
  rw [List.getElem?_set_self hkl] at hl';cases hl'
  unfold IntsOwn
  rw [List.length_set,List.map_set]
  exact o1
 ·rw [List.getElem?_set_ne (fun e=>hik e.symm)] at hl'
  have hr:=h.row i x l' hx hl'
  refine World.ownsRow.kept hr o2 ?_
  rcases Nat.lt_or_gt_of_ne hik with h1 | h1
  ·rcases h.apart i k x _ h1 hx hv with h2 | h2
   ·exact .inl h2
   ·exact .inr (fun e=>h2 e)
  ·rcases h.apart k i _ x h1 hv hx with h2 | h2
   ·cases h2
   ·exact .inr (fun e=>h2 e.symm)
theorem own_at' {w:World} {base:Nat} {e:TypeId} {sz n:Nat} {v:Value} {xs:List Value} (h:w.ownsRow base e sz v n xs) {j:Nat} {u:Value} (hu:xs[j]?=some u):∃g cap,v=.slice (some ⟨g,0,none⟩) n cap∧w.cell? ⟨g,j,none⟩=some u:=by
 rcases own_shape h with ⟨rfl,rfl⟩ | ⟨g,cap,rfl,-⟩
 ·have:=h.1
  rw [Nat.zero_mul] at this
  rw [List.eq_nil_of_length_eq_zero this] at hu;simp at hu
 ·exact ⟨g,cap,rfl,own_cell h hu⟩
def safeJ (p:Auto) (k j:Nat) (row:List Int):List Int:=if accepts p k then row else List.replicate (min j row.length) (k:Int)++row.drop j
def safeK (p:Auto) (k j:Nat):List (List Int):=(List.range p.next.length).map fun q=>if q<k then safeRow p q ((p.next[q]?).getD []) else if q=k then safeJ p q j ((p.next[q]?).getD []) else (p.next[q]?).getD []
theorem safeJ_zero (p:Auto) (k:Nat) (row:List Int):safeJ p k 0 row=row:=by unfold safeJ;split <;> simp
theorem safeJ_len (p:Auto) (k j:Nat) (row:List Int):(safeJ p k j row).length=row.length:=by
 unfold safeJ;split
 ·rfl
 ·simp;omega
theorem safeJ_full (p:Auto) (k:Nat) (row:List Int):safeJ p k row.length row=safeRow p k row:=by
 unfold safeJ safeRow;split
 ·rfl
 ·rw [Nat.min_self,List.drop_length,List.append_nil,List.map_const']
theorem safeJ_set (p:Auto) {k j:Nat} {row:List Int} (hj:j<row.length) (h:accepts p k=false):(safeJ p k j row).set j (k:Int)=safeJ p k (j+1) row:=by
 unfold safeJ
 rw [if_neg (by rw [h];simp),if_neg (by rw [h];simp)]
 rw [Nat.min_eq_left (by omega),Nat.min_eq_left (by omega),List.set_append_right _ _ (by simp),List.length_replicate,Nat.sub_self,List.drop_eq_getElem_cons hj,List.set_cons_zero,List.replicate_succ',List.append_assoc];rfl
theorem safeJ_acc (p:Auto) {k:Nat} (j:Nat) {row:List Int} (h:accepts p k=true):safeJ p k j row=safeJ p k (j+1) row:=by unfold safeJ;rw [if_pos h,if_pos h]
theorem safeK_zero (p:Auto):safeK p 0 0=p.next:=by
 apply List.ext_getElem?
 intro i
 unfold safeK
 by_cases hi:i<p.next.length
 ·rw [List.getElem?_map,List.getElem?_range hi]
  simp only [Option.map_some,Nat.not_lt_zero,if_false]
  by_cases h0:i=0
  ·rw [if_pos h0,h0,safeJ_zero,←h0,List.getElem?_eq_getElem hi];rfl
  ·rw [if_neg h0,List.getElem?_eq_getElem hi];rfl
 ·rw [List.getElem?_eq_none (l:=p.next) (by omega),List.getElem?_eq_none (by simp;omega)]
theorem safeK_at (p:Auto) {k j:Nat} {row:List Int} (h:p.next[k]?=some row):(safeK p k j)[k]?=some (safeJ p k j row):=by
 have hk:=(List.getElem?_eq_some_iff.1 h).1
 unfold safeK
 rw [List.getElem?_map,List.getElem?_range hk]
 simp [h]
theorem safeK_len (p:Auto) (k j:Nat):(safeK p k j).length=p.next.length:=by simp [safeK]
theorem safeK_set (p:Auto) {k j:Nat} {row:List Int} (h:p.next[k]?=some row):(safeK p k j).set k (safeJ p k (j+1) row)=safeK p k (j+1):=by
 have hk:=(List.getElem?_eq_some_iff.1 h).1
 apply List.ext_getElem?
 intro i
 by_cases hik:i=k
 ·subst hik
  rw [List.getElem?_set_self (by rw [safeK_len];exact hk),safeK_at p h]
 ·rw [List.getElem?_set_ne (fun e=>hik e.symm)]
  unfold safeK
  rw [List.getElem?_map,List.getElem?_map]
  by_cases hi:i<p.next.length
  ·rw [List.getElem?_range hi]
   simp only [Option.map_some,if_neg hik]
  ·rw [List.getElem?_eq_none (by simp;omega)];rfl
theorem safeK_acc (p:Auto) {k:Nat} (j:Nat) (h:accepts p k=true):safeK p k j=safeK p k (j+1):=by
 unfold safeK
 apply List.map_congr_left
 intro q _
 by_cases h2:q=k
 ·subst h2;rw [if_neg (Nat.lt_irrefl q),if_neg (Nat.lt_irrefl q),if_pos rfl,if_pos rfl];exact safeJ_acc p j h
 ·rw [if_neg h2,if_neg h2]
theorem own_blk {w:World} {base:Nat} {e:TypeId} {sz n g cap:Nat} {xs:List Value} (h:w.ownsRow base e sz (.slice (some ⟨g,0,none⟩) n cap) n xs):∃cs,Blk w g cs e∧base≤g:=by
 rcases h.2 with ⟨e1,_⟩ | ⟨g',cap',cur,e1,hb,hh,_⟩
 ·cases e1
 ·cases e1;exact ⟨cur,hh,hb⟩
theorem safeK_next (p:Auto) {k:Nat} {row:List Int} (h:p.next[k]?=some row):safeK p k row.length=safeK p (k+1) 0:=by
 apply List.ext_getElem?
 intro i
 unfold safeK
 rw [List.getElem?_map,List.getElem?_map]
 by_cases hi:i<p.next.length
 ·rw [List.getElem?_range hi]
  simp only [Option.map_some,Option.some.injEq]
  by_cases h1:i<k
  ·rw [if_pos h1,if_pos (by omega)]
  ·by_cases h2:i=k
   ·subst h2
    rw [if_neg h1,if_pos rfl,if_pos (by omega),h]
    exact safeJ_full p i row
   ·rw [if_neg h1,if_neg h2,if_neg (by omega)]
    by_cases h3:i=k+1
    ·rw [if_pos h3,safeJ_zero]
    ·rw [if_neg h3]
 ·rw [List.getElem?_eq_none (by simp;omega)];rfl
theorem safeK_done (p:Auto):safeK p p.next.length 0=(safetyPart p).next:=by
 unfold safeK safetyPart
 apply List.map_congr_left
 intro q hq
 rw [if_pos (List.mem_range.1 hq)]
theorem auto_store' {base:Nat} {w:World} {v:Value} {x:Auto} (h:AutoOwn base w v x) {g:Nat} {cs:Array Value} {T:TypeId} (hG:Blk w g cs T) (h1:T≠78) (h2:T≠3) (h3:T≠4) (j:Nat) (u:Value):AutoOwn base (w.setCell ⟨g,j,none⟩ u) v x:=
 let ⟨vn,va,e,a,b⟩:=h
 ⟨vn,va,e,intss_store a hG h1 h2 j u,own_store b hG h3 j u⟩
theorem SafetyPart_c (v:Value) (x:Auto) (w:World) (hv:AutoV w v x) (hx:autoValid x=true) :
  Calls Tryz.prog 22 #[v] w (fun e w'=>∃v',e=.returned (.tuple #[v',.bool true])∧Ext w w'∧AutoOwn w.heap.size w' v' (safetyPart x)):=by
 have hsz:=szAuto_valid' hx
 have hx12:=(autoValid_facts hx).2.2.2.1
 obtain ⟨vn,va,rfl,h1,h2⟩:=hv
 obtain ⟨an,cn,rfl,-,-⟩:=h1.open
 obtain ⟨aa,ca,rfl,-,hat⟩:=h2.open
 have HV:=Lib.hid (show ∀w',Ext w w'→AutoV w' (.agg #[.int .i64 x.alphabet,.slice an x.next.length cn,.slice aa x.accept.length ca]) x from fun w' h=>⟨_,_,rfl,h1.mono h,h2.mono h⟩)
 have HAC:Hid (∀k,k<x.next.length→∃b off,aa=some ⟨b,off,none⟩∧w.cell? ⟨b,off+k,none⟩=some (.bool (accepts x k))):=Lib.hid fun k hk=>by
  obtain ⟨b,off,e1,-,hc⟩:=hat k _ (accepts_at hx hk)
  have:=hc k _ (accepts_at hx hk)
  rw [Nat.mul_one] at this
  exact ⟨b,off,e1,this⟩
 clear h1 h2 hat
 have he:Ext w ((w.alloc (.cells #[.int .i64 x.alphabet,.slice an x.next.length cn,.slice aa x.accept.length ca] 26)).alloc (.cells #[.int .i64 0,.slice none 0 0,.slice none 0 0] 26)):=(Ext.alloc _ _).trans (Ext.alloc _ _)
 have hB:=(Blk.new w #[.int .i64 x.alphabet,.slice an x.next.length cn,.slice aa x.accept.length ca] 26).ext (Ext.alloc _ (.cells #[.int .i64 0,.slice none 0 0,.slice none 0 0] 26))
 have hR:=Blk.new (w.alloc (.cells #[.int .i64 x.alphabet,.slice an x.next.length cn,.slice aa x.accept.length ca] 26)) #[.int .i64 0,.slice none 0 0,.slice none 0 0] 26
 rw [World.size_alloc] at hR
 go_enter Tryz.func22,Tryz.ntmps22
 go_wp2_with fail
 generalize (w.alloc (.cells #[.int .i64 x.alphabet,.slice an x.next.length cn,.slice aa x.accept.length ca] 26)).alloc (.cells #[.int .i64 0,.slice none 0 0,.slice none 0 0] 26)=wo at he hB hR⊢
 refine (AutomatonValid_c _ x _ (HV.out _ he)).mono ?_
 rintro e w1 ⟨rfl,he1⟩
 rw [hx]
 replace he:=he.trans he1
 replace hB:=hB.ext he1
 replace hR:=hR.ext he1
 have bc0:=hB.cell 0 rfl;have bc1:=hB.cell 1 rfl;have bc2:=hB.cell 2 rfl
 go_wp2_with fail
 refine (copyAutomaton_c _ x _ (HV.out _ he) hsz).mono ?_
 rintro e w2 ⟨v2,rfl,he2,hO⟩
 obtain ⟨vN,vA,rfl,⟨vs,hN,hRW,hap⟩,hA⟩:=hO
 obtain ⟨aN,cN,rfl⟩:=own_any' hN
 obtain ⟨aA,cA,rfl⟩:=hA.shape
 have hw12:=he.size
 have hb1:w.heap.size+1<w1.heap.size:=hR.lt
 replace he:=he.trans he2
 replace hB:=hB.ext he2
 replace hR:=hR.ext he2
 clear bc0 bc1 bc2
 go_upto_region 4 with fail
 have heG:=Ext.alloc w2 (.cells #[.int .i64 x.alphabet,.slice aN x.next.length cN,.slice aA x.accept.length cA] 26)
 have hG:=Blk.new w2 #[.int .i64 x.alphabet,.slice aN x.next.length cN,.slice aA x.accept.length cA] 26
 replace hN:=own_ext hN heG
 replace hRW:=hRW.ext heG
 replace hA:=hA.ext heG
 replace hB:=hB.ext heG
 replace hR:=hR.ext heG
 replace he:=he.trans heG
 have hGb:w1.heap.size≤w2.heap.size:=he2.size
 clear heG he1 he2
 generalize w2.alloc (.cells #[.int .i64 x.alphabet,.slice aN x.next.length cN,.slice aA x.accept.length cA] 26)=w3 at he hG hN hRW hA hB hR⊢
 generalize w2.heap.size=G at hG hGb⊢
 have gc1:=hG.cell 1 rfl
 have HLEN:=Lib.hid hRW.len
 have HAP:=Lib.hid hap
 clear hap
 rw [←safeK_zero x] at hRW
 go_wp2_with fail
 clear gc1
 go_loopw [17] (fun i wr=>∃k:Nat,k≤x.next.length∧i=.int .i64 k∧wr.ownsRow w1.heap.size 78 1 (.slice aN x.next.length cN) x.next.length vs∧RowsAre 3 w1.heap.size wr vs (safeK x k 0)∧BoolsOwn 4 w1.heap.size wr (.slice aA x.accept.length cA) x.accept∧Blk wr G #[.int .i64 x.alphabet,.slice aN x.next.length cN,.slice aA x.accept.length cA] 26∧Blk wr w.heap.size #[.int .i64 x.alphabet,.slice an x.next.length cn,.slice aa x.accept.length ca] 26∧Blk wr (w.heap.size+1) #[.int .i64 0,.slice none 0 0,.slice none 0 0] 26∧Ext w wr) (fun i _=>x.next.length-(intOf i).toNat)
 case atStart=>exact ⟨0,by omega,rfl,hN,hRW,hA,hG,hB,hR,he⟩
 case round=>
  clear hN hRW hA hG hB hR he
  obtain ⟨k,hk,rfl,hN,hRW,hA,hG,hB,hR,hext⟩:=hrel
  by_cases hlt:k<x.next.length
  ·obtain ⟨row,hrow⟩:∃row,x.next[k]?=some row:=⟨_,List.getElem?_eq_getElem hlt⟩
   obtain ⟨vr,hvr⟩:∃vr,vs[k]?=some vr:=⟨_,List.getElem?_eq_getElem (by rw [HLEN.out];exact hlt)⟩
   obtain ⟨gN,capN,e1,gn⟩:=own_at' hN hvr
   cases e1
   have hrk:=hRW.row k vr _ hvr (safeK_at x hrow)
   obtain ⟨ar,cr,rfl⟩:=own_any' hrk
   rw [safeJ_len] at hvr gn
   have HROW:=Lib.hid hrow
   have HVR:=Lib.hid hvr
   obtain ⟨n6,hn6⟩:∃n6,Hid (row.length=n6):=⟨_,Lib.hid rfl⟩
   rw [hn6.out] at gn
   have hn66:n6≤6:=by rw [←hn6.out];exact row_six hx row (List.mem_of_getElem? hrow)
   obtain ⟨ba,offa,eaa,gacc⟩:=HAC.out k hlt
   clear hrk hrow hvr
   go_wp2_with fail
   go_loopw [24] (fun j wr=>∃q:Nat,q≤n6∧j=.int .i64 q∧wr.ownsRow w1.heap.size 78 1 (.slice (some ⟨gN,0,none⟩) x.next.length cN) x.next.length vs∧RowsAre 3 w1.heap.size wr vs (safeK x k q)∧BoolsOwn 4 w1.heap.size wr (.slice aA x.accept.length cA) x.accept∧Blk wr G #[.int .i64 x.alphabet,.slice (some ⟨gN,0,none⟩) x.next.length cN,.slice aA x.accept.length cA] 26∧Blk wr w.heap.size #[.int .i64 x.alphabet,.slice an x.next.length cn,.slice aa x.accept.length ca] 26∧Blk wr (w.heap.size+1) #[.int .i64 0,.slice none 0 0,.slice none 0 0] 26∧Ext w wr) (fun j _=>n6-(intOf j).toNat)
   case atStart=>exact ⟨0,by omega,rfl,hN,hRW,hA,hG,hB,hR,hext⟩
   case round=>
    clear hN hRW hA hG hB hR hext
    obtain ⟨q,hq,rfl,hN,hRW,hA,hG,hB,hR,hext⟩:=hrel
    by_cases hql:q<n6
    ·have hqr:q<row.length:=by rw [hn6.out];exact hql
     have hrk:=hRW.row k _ _ HVR.out (safeK_at x HROW.out)
     obtain ⟨gr,capr,e2,gcell⟩:=own_at' hrk (j:=q) (u:=.int .i64 ((safeJ x k q row)[q]'(by rw [safeJ_len];exact hqr))) (by rw [List.getElem?_map,List.getElem?_eq_getElem (by rw [safeJ_len];exact hqr)];rfl)
     rw [safeJ_len,hn6.out] at e2
     obtain ⟨rfl,rfl⟩:ar=some ⟨gr,0,none⟩∧cr=capr:=by cases e2;exact ⟨rfl,rfl⟩
     clear e2
     have g2:=hB.cell 2 rfl
     have ga:=hext.cell gacc
     have hkn:(k:Int)<(x.accept.length:Int):=by have:=(autoValid_facts hx).2.2.2.2;omega
     have hk0:(0:Int)≤(k:Int):=by omega
     have hql2:(q:Int)<(n6:Int):=by omega
     cases eaa
     cases hacc:accepts x k with
     | true=>
      rw [hacc] at ga
      have HK2:=Lib.hid (safeK_acc x q hacc)
      clear hrk gcell hacc
      go_wp2_with fail
      exact ⟨⟨q+1,by omega,by go_num,hN,by rw [←HK2.out];exact hRW,hA,hG,hB,hR,hext⟩,by simp [intOf];omega⟩
     | false=>
      rw [hacc] at ga
      have hrk':wr.ownsRow w1.heap.size 3 1 (.slice (some ⟨gr,0,none⟩) (safeJ x k q row).length cr) (safeJ x k q row).length ((safeJ x k q row).map (Value.int .i64)):=by
       have:=hrk.own;rw [safeJ_len] at this ⊢;rw [hn6.out] at this ⊢;exact this
      have gf:=World.ownsRow.frozenAt hrk' q
      obtain ⟨csr,hBr,hgr⟩:=own_blk hrk'
      have hvr2:=HVR.out
      rw [hn6.out] at hvr2
      have hst:=hRW.storeAt hvr2 (safeK_at x HROW.out) q (k:Int)
      rw [safeJ_set x hqr hacc,safeK_set x HROW.out] at hst
      have hN2:=own_store hN hBr (by decide) q (.int .i64 (k:Int))
      have hA2:=own_store hA hBr (by decide) q (.int .i64 (k:Int))
      have hGr:G≠gr:=fun e=>by rw [e] at hG;have h3:=hG.symm.trans hBr;cases h3
      have hG2:=hG.other (p:=⟨gr,q,none⟩) hGr (.int .i64 (k:Int))
      have hB2:=hB.other (p:=⟨gr,q,none⟩) (by simp only [];omega) (.int .i64 (k:Int))
      have hR2:=hR.other (p:=⟨gr,q,none⟩) (by simp only [];omega) (.int .i64 (k:Int))
      have hext2:=hext.setCell (p:=⟨gr,q,none⟩) (by simp only [];omega) (.int .i64 (k:Int))
      clear hrk hrk' hacc hBr
      go_wp2_with fail
      exact ⟨⟨q+1,by omega,by go_num,hN2,hst,hA2,hG2,hB2,hR2,hext2⟩,by simp [intOf];omega⟩
    ·obtain rfl:q=n6:=by omega
     have hnx:=safeK_next x HROW.out
     rw [hn6.out] at hnx
     rw [hnx] at hRW
     clear hnx
     go_wp2_with fail
     exact ⟨⟨k+1,by omega,by go_num,hN,hRW,hA,hG,hB,hR,hext⟩,by simp [intOf];omega⟩
  ·obtain rfl:k=x.next.length:=by omega
   rw [safeK_done] at hRW
   have gc0:=hG.cell 0 rfl;have gf0:=hG.fr 0;have gc1:=hG.cell 1 rfl;have gf1:=hG.fr 1;have gc2:=hG.cell 2 rfl;have gf2:=hG.fr 2
   have rc0:=hR.cell 0 rfl;have rf0:=hR.fr 0;have rc1:=hR.cell 1 rfl;have rf1:=hR.fr 1;have rc2:=hR.cell 2 rfl;have rf2:=hR.fr 2
   go_wp2_with fail
   refine bodyPost_ret (v:=.tuple #[.agg #[.int .i64 x.alphabet,.slice aN x.next.length cN,.slice aA x.accept.length cA],.bool true]) (by simp [results,Tryz.results22,go_sem,rc0,rc1,rc2,rf0,rf1,rf2]) rfl ?_
   have hbig:w.heap.size≤w.heap.size+1:=by omega
   refine ⟨_,rfl,(((hext.setCell (p:=⟨(w.heap.size+1),0,none⟩) (by simp only [];omega) _).setCell (p:=⟨(w.heap.size+1),1,none⟩) (by simp only [];omega) _).setCell (p:=⟨(w.heap.size+1),2,none⟩) (by simp only [];omega) _),?_⟩
   have hX:AutoOwn w.heap.size wr (.agg #[.int .i64 x.alphabet,.slice aN x.next.length cN,.slice aA x.accept.length cA]) (safetyPart x):=AutoOwn.low (base:=w1.heap.size) ⟨_,_,rfl,⟨vs,by rw [safetyPart_len];exact hN,hRW,HAP.out⟩,hA⟩ hw12
   exact auto_store' (auto_store' (auto_store' hX hR (by decide) (by decide) (by decide) 0 _) (hR.set 0 _) (by decide) (by decide) (by decide) 1 _) ((hR.set 0 _).set 1 _) (by decide) (by decide) (by decide) 2 _
end Go.Proofs.YtccklliljdembaaGreatDoor
