import Derived.Test.YtccklliljdembaaGreatDoorPlainC
import Derived.Test.YtccklliljdembaaGreatDoorWalkWs
namespace Go.Proofs.YtccklliljdembaaGreatDoor
set_option linter.unusedSimpArgs false
set_option linter.unusedVariables false
open Go.RowKit
set_option maxHeartbeats 1000000
def OutW (a b:Auto) (u:List Int):Prop:=(∀x∈u,bit a.alphabet x=true)∧accepts a (run a 0 u)=true∧accepts b (run b 0 u)=false
def comp2 (a b:Auto):Bool:=autoValid a&&autoValid b&&decide (a.alphabet=b.alphabet)
def OutR (a b:Auto) (r:Option (List Int)):Prop:=if comp2 a b=true then FirstIs (OutW a b) r else r=none
open Classical in
noncomputable def withinB (a b:Auto):Bool:=comp2 a b&&decide (¬∃u,OutW a b u)
theorem OutR.within {a b:Auto} {r:Option (List Int)} (h:OutR a b r):(comp2 a b && !r.isSome)=withinB a b:=by
 unfold OutR at h
 unfold withinB
 cases hc:comp2 a b with
 | false=>rfl
 | true=>
  rw [if_pos hc] at h
  simp only [Bool.true_and]
  cases r with
  | none=>exact (@decide_eq_true _ (_) (fun ⟨u,hu⟩=>h u hu)).symm
  | some u=>exact (@decide_eq_false _ (_) (fun hn=>hn ⟨u,h.1⟩)).symm
theorem withinB_iff {a b:Auto}:withinB a b=true↔autoValid a=true∧autoValid b=true∧a.alphabet=b.alphabet∧∀v,accepts a (run a 0 v)=true→accepts b (run b 0 v)=true:=by
 unfold withinB comp2
 simp only [Bool.and_eq_true,decide_eq_true_eq]
 constructor
 ·rintro ⟨⟨⟨h1,h2⟩,h3⟩,h4⟩
  refine ⟨h1,h2,h3,fun v hv=>?_⟩
  cases hb:accepts b (run b 0 v) with
  | true=>rfl
  | false=>
   exact absurd ⟨v.filter (bit a.alphabet),fun x hx=>(List.mem_filter.1 hx).2,by rw [run_filter];exact hv,by rw [h3,run_filter];exact hb⟩ h4
 ·rintro ⟨h1,h2,h3,h4⟩
  exact ⟨⟨⟨h1,h2⟩,h3⟩,fun ⟨u,_,h5,h6⟩=>by rw [h4 u h5] at h6;cases h6⟩
def outN (a b:Auto) (k:Nat) (l:Int):List Nat:=[step a (k / b.next.length) l*b.next.length+step b (k % b.next.length) l]
def outG (a b:Auto) (k:Nat):Bool:=accepts a (k / b.next.length) && !accepts b (k % b.next.length)
theorem out_leads {a b:Auto} (hb:autoValid b=true) (v:List Int):∀k m,Leads (outN a b) k v m→m=run a (k / b.next.length) v*b.next.length+run b (k % b.next.length) v:=by
 have hn:=(autoValid_facts hb).2.2.1
 induction v with
 | nil=>
  intro k m h
  have h:k=m:=h
  subst h
  show k=k / b.next.length*b.next.length+k % b.next.length
  rw [Nat.mul_comm];exact (Nat.div_add_mod k _).symm
 | cons l v ih=>
  rintro k m ⟨c,hc,h⟩
  have hc:c=step a (k / b.next.length) l*b.next.length+step b (k % b.next.length) l:=by simpa [outN] using hc
  have hl:=step_lt hb (Nat.mod_lt k hn) l
  have:=ih c m h
  rw [hc,div_pair hl,mod_pair hl] at this
  exact this
theorem out_leads' {a b:Auto} (hb:autoValid b=true) (v:List Int):∀k,Leads (outN a b) k v (run a (k / b.next.length) v*b.next.length+run b (k % b.next.length) v):=by
 have hn:=(autoValid_facts hb).2.2.1
 induction v with
 | nil=>
  intro k
  show k=k / b.next.length*b.next.length+k % b.next.length
  rw [Nat.mul_comm];exact (Nat.div_add_mod k _).symm
 | cons l v ih=>
  intro k
  have hl:=step_lt hb (Nat.mod_lt k hn) l
  refine ⟨step a (k / b.next.length) l*b.next.length+step b (k % b.next.length) l,by simp [outN],?_⟩
  have:=ih (step a (k / b.next.length) l*b.next.length+step b (k % b.next.length) l)
  rw [div_pair hl,mod_pair hl] at this
  exact this
theorem out_wins {a b:Auto} (ha:autoValid a=true) (hb:autoValid b=true) (u:List Int):Wins (outN a b) (letters a.alphabet) [0] (outG a b) u↔OutW a b u:=by
 have hn:=(autoValid_facts hb).2.2.1
 have a63:=(autoValid_facts ha).2.1
 have hr:=(AutoFit.of hb).run_lt u (q:=0) (by omega)
 unfold Wins Gets OutW
 simp only [List.mem_singleton,exists_eq_left,letters_iff _ a63]
 constructor
 ·rintro ⟨n,⟨h1,h2⟩,h3⟩
  have:=out_leads hb u 0 n h2
  rw [Nat.zero_div,Nat.zero_mod] at this
  subst this
  unfold outG at h3
  rw [div_pair hr,mod_pair hr] at h3
  simp only [Bool.and_eq_true,Bool.not_eq_true'] at h3
  exact ⟨h1,h3.1,h3.2⟩
 ·rintro ⟨h1,h2,h3⟩
  have:=out_leads' (a:=a) hb u 0
  rw [Nat.zero_div,Nat.zero_mod] at this
  refine ⟨_,⟨h1,this⟩,?_⟩
  unfold outG
  rw [div_pair hr,mod_pair hr,h2,h3];rfl
theorem outN_lt {a b:Auto} (ha:autoValid a=true) (hb:autoValid b=true) {k:Nat} (hk:k<a.next.length*b.next.length) (l:Int):∀m∈outN a b k l,m<a.next.length*b.next.length:=fun m hm=>by
 have hn:=(autoValid_facts hb).2.2.1
 have hm:m=step a (k / b.next.length) l*b.next.length+step b (k % b.next.length) l:=by simpa [outN] using hm
 subst hm
 have h1:=step_lt ha (q:=k / b.next.length) ((Nat.div_lt_iff_lt_mul (by omega)).2 hk) l
 have h2:=step_lt hb (Nat.mod_lt k hn) l
 calc step a (k / b.next.length) l*b.next.length+step b (k % b.next.length) l<step a (k / b.next.length) l*b.next.length+b.next.length:=by omega
  _=(step a (k / b.next.length) l+1)*b.next.length:=by rw [Nat.add_mul,Nat.one_mul]
  _≤a.next.length*b.next.length:=Nat.mul_le_mul_right _ h1
def extA (p:Auto) (n:Int):Auto:=⟨n,(List.range p.next.length).map fun q=>(letters n).map fun l=>((step p q l:Nat):Int),p.accept⟩
theorem extA_len (p:Auto) (n:Int):(extA p n).next.length=p.next.length:=by simp [extA]
theorem extA_valid {p:Auto} {n:Int} (hp:autoValid p=true) (hn:0≤n) (hn2:n≤63):autoValid (extA p n)=true:=by
 obtain ⟨f1,f2,f3,f4,f5⟩:=autoValid_facts hp
 simp only [autoValid,Bool.and_eq_true,decide_eq_true_eq,List.all_eq_true]
 rw [extA_len]
 refine ⟨⟨⟨⟨by simp [isAlpha,extA,hn,hn2],f3⟩,f4⟩,f5⟩,fun row hr=>?_⟩
 obtain ⟨q,hq,rfl⟩:=List.mem_map.1 hr
 simp only [rowOk,Bool.and_eq_true,decide_eq_true_eq,List.all_eq_true,qOk]
 refine ⟨by simp [extA,nletters],fun y hy=>?_⟩
 obtain ⟨l,_,rfl⟩:=List.mem_map.1 hy
 have:=step_lt hp (List.mem_range.1 hq) l
 omega
theorem extA_step {p:Auto} {n:Int} (hn:0≤n) (hn2:n≤63) (h:∀l,bit p.alphabet l=true→bit n l=true) {q:Nat} (hq:q<p.next.length) (l:Int):step (extA p n) q l=step p q l:=by
 by_cases hb:bit n l=true
 case neg=>
  have h2:¬bit p.alphabet l=true:=fun h3=>hb (h l h3)
  unfold step
  rw [if_neg (show ¬bit (extA p n).alphabet l=true from hb),if_neg h2]
 have hl:=bit_range hn2 hb
 have hm6:place n l<6:=by
  have h1:=place_lt_all n.toNat (List.mem_range.2 (by omega)) l.toNat (List.mem_range.2 (by omega))
  simp only [Int.ofNat_eq_natCast] at h1
  rw [Int.toNat_of_nonneg hn,Int.toNat_of_nonneg hl.1] at h1
  have:=h1 hb
  have h6:=lettersTo_len n 6
  unfold nletters letters at this
  omega
 have hp:=(letters_place n l (place n l) hn hn2 hl.1 hl.2 hm6).2 ⟨hb,rfl⟩
 have e:entry (extA p n) q (place n l)=((step p q l:Nat):Int):=by
  unfold entry extA
  simp only [List.getElem?_map,List.getElem?_range hq,Option.map_some,Option.getD_some,hp]
 have:step (extA p n) q l=(entry (extA p n) q (place n l)).toNat:=by
  conv=>lhs;unfold step
  rw [if_pos (show bit (extA p n).alphabet l=true from hb)];rfl
 rw [this,e];rfl
theorem extA_run {p:Auto} {n:Int} (hp:autoValid p=true) (hn:0≤n) (hn2:n≤63) (h:∀l,bit p.alphabet l=true→bit n l=true) (v:List Int):∀q,q<p.next.length→run (extA p n) q v=run p q v:=by
 induction v with
 | nil=>intro q _;rfl
 | cons l v ih=>
  intro q hq
  show run (extA p n) (step (extA p n) q l) v=run p (step p q l) v
  rw [extA_step hn hn2 h hq,ih _ (step_lt hp hq l)]
theorem safety_prefix {o:Auto} (ho:autoValid o=true) {u v:List Int} (h:u <+: v) (hv:accepts o (run (safetyPart o) 0 v)=true):accepts o (run (safetyPart o) 0 u)=true:=by
 have h0:=(autoValid_facts ho).2.2.1
 cases hu:accepts o (run (safetyPart o) 0 u) with
 | true=>rfl
 | false=>
  obtain ⟨k,hk⟩:=(safety_run ho u 0 (by omega)).1 hu
  obtain ⟨m,rfl⟩:=h
  have:accepts o (run (safetyPart o) 0 (u++m))=false:=(safety_run ho (u++m) 0 (by omega)).2 ⟨min k u.length,by
   rw [List.take_append_of_le_length (Nat.min_le_right _ _)]
   rwa [←List.take_take,List.take_length] ⟩
  rw [this] at hv;cases hv
theorem weak_weakest {t:Task} {a o:Auto} (ha:weakOf t=some a) (ho:autoValid o=true) (hn:∀l,bit o.alphabet l=true→bit t.alphabet l=true):underB t.sys (extA (safetyPart o) t.alphabet) t.prop=withinB (extA (safetyPart o) t.alphabet) a:=by
 obtain ⟨a1,a2,a3⟩:=weak_acc ha
 obtain ⟨vS,vP,hI⟩:=taskValid_facts (weakOf_some ha).1
 obtain ⟨t0,t63⟩:=alpha_facts hI
 have h0:=(autoValid_facts ho).2.2.1
 have hsv:=safetyPart_valid ho
 have hc:=extA_valid hsv t0 t63
 have hacc:∀v,accepts (extA (safetyPart o) t.alphabet) (run (extA (safetyPart o) t.alphabet) 0 v)=accepts o (run (safetyPart o) 0 v):=fun v=>by
  rw [extA_run hsv t0 t63 hn v 0 (by rw [safetyPart_len];omega)];rfl
 have hfil:∀v,accepts o (run (safetyPart o) 0 (v.filter (bit t.alphabet)))=accepts o (run (safetyPart o) 0 v):=fun v=>by
  rw [←hacc,←hacc]
  exact congrArg _ (run_filter (extA (safetyPart o) t.alphabet) v 0)
 rw [Bool.eq_iff_iff,underB_iff,withinB_iff]
 constructor
 ·rintro ⟨_,_,_,h4⟩
  refine ⟨hc,a1,a2.symm,fun u hu=>?_⟩
  rw [a3]
  rw [hacc] at hu
  intro v k1 k2 k3
  refine h4 v k1 k3 ?_
  rw [hacc,←hfil]
  rw [←hfil] at hu
  exact safety_prefix ho k2 hu
 ·rintro ⟨_,_,_,h4⟩
  exact ⟨vS,hc,vP,fun v k1 k2 k3=>(a3 v).1 (h4 v k3) v k1 (List.prefix_refl _) k2⟩
end Go.Proofs.YtccklliljdembaaGreatDoor
