import Derived.Test.YtccklliljdembaaGreatDoorDrawAny
import Derived.Test.YtccklliljdembaaGreatDoorDrawV
import Derived.Test.YtccklliljdembaaGreatDoorAgD
import Derived.Test.YtccklliljdembaaGreatDoorWalkWs
import Derived.Test.YtccklliljdembaaGreatDoorWalkLw
import Derived.Test.YtccklliljdembaaGreatDoorWalkEx
import Derived.Test.YtccklliljdembaaGreatDoorDet
import Derived.Test.YtccklliljdembaaGreatDoorDrawL
namespace Go.Proofs.YtccklliljdembaaGreatDoor.lawFnWeakestWeakest
open Go.ChangeShapes Go.WideShapes Go.ChangeAt Go.RowKit
open Go.Proofs.YtccklliljdembaaGreatDoor
open Go.ChangeMaps (open_string shut_string)
set_option linter.unusedVariables false
set_option linter.unusedSimpArgs false
set_option maxHeartbeats 1600000
set_option maxRecDepth 100000
theorem ww_law {O R8 R9 R:Auto} {T:Task} (hO:autoValid O=true) (h2:(autoValid R8&&isAlpha T.alphabet)=true) (e8:R8=safetyPart O) (e9:R9=extA R8 (bits .or .i64 R8.alphabet T.alphabet)) (ha:R9.alphabet=T.alphabet) (hw:weakOf T=some R):underB T.sys R9 T.prop=withinB R9 R:=by
 subst e8
 have hb:bits .or .i64 (safetyPart O).alphabet T.alphabet=T.alphabet:=by rw [e9] at ha;exact ha
 rw [hb] at e9
 subst e9
 refine weak_weakest hw hO fun l hl=>?_
 simp only [Bool.and_eq_true] at h2
 have h3:=(autoValid_facts hO).1
 have h3':=(autoValid_facts hO).2.1
 have h4:=h2.2
 simp only [isAlpha,Bool.and_eq_true,decide_eq_true_eq] at h4
 have hb':bits .or .i64 O.alphabet T.alphabet=T.alphabet:=hb
 obtain ⟨m,hm⟩:∃m:Nat,O.alphabet=(m:Int):=⟨O.alphabet.toNat,by omega⟩
 obtain ⟨n,hn⟩:∃n:Nat,T.alphabet=(n:Int):=⟨T.alphabet.toNat,by omega⟩
 rw [hm,hn] at hb'
 rw [i64_or_nat m n (by omega) (by omega)] at hb'
 rw [hm] at hl
 rw [hn,←hb',bit_or,hl,Bool.true_or]
theorem walk (v0:Value) (t0:List UInt8) (v1:Value) (t1:List UInt8) (w:World) (hv0:BytesV w v0 t0) (hv1:BytesV w v1 t1) (hD:Deb w):Calls Tryz.prog 6 #[v0,v1] w (Grows (.bool true) w):=by
 have HV1:=Lib.hid (show ∀w',Ext w w'→BytesV w' v1 t1 from fun w' h=>hv1.mono (fun b o x _ k=>h.cell k) h.size)
 obtain ⟨aB,cB,rfl,hleB,-⟩:=hv0.open
 obtain ⟨aM,cM,rfl,hleM,-⟩:=hv1.open
 clear hv1
 have HDb:=Lib.hid hD
 clear hD
 by_cases hz0:1048576<t0.length
 ·go_enter Tryz.func6,Tryz.ntmps6
  go_wp2_with fail
  go_ret
  exact Grows.mk rfl (Ext.refl _)
 by_cases hz1:1048576<t1.length
 ·go_enter Tryz.func6,Tryz.ntmps6
  go_wp2_with fail
  go_ret
  exact Grows.mk rfl (Ext.refl _)
 go_enter Tryz.func6,Tryz.ntmps6
 go_wp2_with fail
 refine (DrawWeakestAssumption_t _ t0 _ hv0 (by omega)).mono ?_
 rintro e w1 ⟨vt,T,rfl,he1,hTV,hed⟩
 obtain ⟨vE1,vN1,vA1,rfl,hE1,hN1,hA1⟩:=hTV
 obtain ⟨aE1,cE1,rfl,-,-⟩:=hE1.open
 obtain ⟨aN1,cN1,rfl,-,-⟩:=hN1.open
 obtain ⟨aA1,cA1,rfl,-,-⟩:=hA1.open
 have HT:=Lib.hid (show ∀w',Ext w1 w'→TaskV w' (.agg #[.int .i64 T.sys.alphabet,.int .i64 T.sys.states,.slice aE1 T.sys.edges.length cE1,.int .i64 T.prop.alphabet,.slice aN1 T.prop.next.length cN1,.slice aA1 T.prop.accept.length cA1,.int .i64 T.alphabet]) T from fun w' h=>⟨_,_,_,rfl,hE1.mono h,hN1.mono h,hA1.mono h⟩)
 have HSY:=Lib.hid (show ∀w',Ext w1 w'→SysV w' (.agg #[.int .i64 T.sys.alphabet,.int .i64 T.sys.states,.slice aE1 T.sys.edges.length cE1]) T.sys from fun w' h=>⟨_,rfl,hE1.mono h⟩)
 have HAU:=Lib.hid (show ∀w',Ext w1 w'→AutoV w' (.agg #[.int .i64 T.prop.alphabet,.slice aN1 T.prop.next.length cN1,.slice aA1 T.prop.accept.length cA1]) T.prop from fun w' h=>⟨_,_,rfl,hN1.mono h,hA1.mono h⟩)
 have HD:=Lib.hid (show ∀w',Ext w1 w'→Deb w' from fun w' h=>HDb.out.ext (he1.trans h))
 obtain ⟨R,hR⟩:∃R,(weakOf T).getD zeroA=R:=⟨_,rfl⟩
 obtain ⟨bb,hbb⟩:∃bb,(weakOf T).isSome=bb:=⟨_,rfl⟩
 have CS:=Lib.hid (show ∀w',Ext w1 w'→Calls Tryz.prog 19 #[.agg #[.int .i64 T.sys.alphabet,.int .i64 T.sys.states,.slice aE1 T.sys.edges.length cE1,.int .i64 T.prop.alphabet,.slice aN1 T.prop.next.length cN1,.slice aA1 T.prop.accept.length cA1,.int .i64 T.alphabet]] w' (fun e w''=>∃u,e=.returned (.tuple #[u,.bool bb])∧Ext w' w''∧AutoOwn w'.heap.size w'' u R) from fun w' h=>(by have:=WeakestAssumption_sd _ T w' (HT.out _ h) (by omega);unfold WeakDet at this;rwa [hR,hbb] at this))
 have CP:=Lib.hid (show ∀w',Ext w1 w'→Calls Tryz.prog 18 #[.agg #[.int .i64 T.sys.alphabet,.int .i64 T.sys.states,.slice aE1 T.sys.edges.length cE1,.int .i64 T.prop.alphabet,.slice aN1 T.prop.next.length cN1,.slice aA1 T.prop.accept.length cA1,.int .i64 T.alphabet]] w' (fun e w''=>∃u,e=.returned (.tuple #[u,.bool bb])∧Ext w' w''∧AutoOwn w'.heap.size w'' u R) from fun w' h=>(by have:=WeakestAssumption_cd _ T w' (HT.out _ h) (HD.out _ h);unfold WeakDet at this;rwa [hR,hbb] at this))
 have HRR:=Lib.hid hR
 have HBB:=Lib.hid hbb
 clear hE1 hN1 hA1 hR hbb hed
 have hx:Ext w1 (w1.alloc (.cells #[.int .i64 T.sys.alphabet,.int .i64 T.sys.states,.slice aE1 T.sys.edges.length cE1,.int .i64 T.prop.alphabet,.slice aN1 T.prop.next.length cN1,.slice aA1 T.prop.accept.length cA1,.int .i64 T.alphabet] 41)):=Ext.alloc _ _
 have bT:Blk (w1.alloc (.cells #[.int .i64 T.sys.alphabet,.int .i64 T.sys.states,.slice aE1 T.sys.edges.length cE1,.int .i64 T.prop.alphabet,.slice aN1 T.prop.next.length cN1,.slice aA1 T.prop.accept.length cA1,.int .i64 T.alphabet] 41)) w1.heap.size #[.int .i64 T.sys.alphabet,.int .i64 T.sys.states,.slice aE1 T.sys.edges.length cE1,.int .i64 T.prop.alphabet,.slice aN1 T.prop.next.length cN1,.slice aA1 T.prop.accept.length cA1,.int .i64 T.alphabet] 41:=Ext.blk (Ext.refl _)
 go_wp2_with fail
 generalize (w1.alloc (.cells #[.int .i64 T.sys.alphabet,.int .i64 T.sys.states,.slice aE1 T.sys.edges.length cE1,.int .i64 T.prop.alphabet,.slice aN1 T.prop.next.length cN1,.slice aA1 T.prop.accept.length cA1,.int .i64 T.alphabet] 41))=w2 at hx bT⊢
 have bT_0:=bT.cell 0 rfl;have bT_1:=bT.cell 1 rfl;have bT_2:=bT.cell 2 rfl;have bT_3:=bT.cell 3 rfl;have bT_4:=bT.cell 4 rfl;have bT_5:=bT.cell 5 rfl;have bT_6:=bT.cell 6 rfl
 go_wp2_with fail
 refine (CP.out _ hx).mono ?_
 rintro e w3 ⟨u4,rfl,he4,hO4⟩
 clear bT_0 bT_1 bT_2 bT_3 bT_4 bT_5 bT_6
 obtain ⟨vN4,vA4,rfl,hO4'⟩:=hO4
 obtain ⟨aN4,cN4,rfl⟩:=hO4'.1.shape
 obtain ⟨aA4,cA4,rfl⟩:=hO4'.2.shape
 have hN4:=hO4'.1.intss
 have hA4:=hO4'.2.bools
 have HW4:=Lib.hid (show ∀w',Ext w3 w'→AutoV w' (.agg #[.int .i64 R.alphabet,.slice aN4 R.next.length cN4,.slice aA4 R.accept.length cA4]) R from fun w' h=>⟨_,_,rfl,hN4.mono h,hA4.mono h⟩)
 clear hO4' hN4 hA4
 have dbT_0:=fun o=>((bT.ext he4).ext (Ext.alloc w3 o)).cell 0 rfl;have dbT_1:=fun o=>((bT.ext he4).ext (Ext.alloc w3 o)).cell 1 rfl;have dbT_2:=fun o=>((bT.ext he4).ext (Ext.alloc w3 o)).cell 2 rfl;have dbT_3:=fun o=>((bT.ext he4).ext (Ext.alloc w3 o)).cell 3 rfl;have dbT_4:=fun o=>((bT.ext he4).ext (Ext.alloc w3 o)).cell 4 rfl;have dbT_5:=fun o=>((bT.ext he4).ext (Ext.alloc w3 o)).cell 5 rfl;have dbT_6:=fun o=>((bT.ext he4).ext (Ext.alloc w3 o)).cell 6 rfl
 replace bT:=(bT.ext he4).ext (Ext.alloc w3 (.cells #[.int .i64 R.alphabet,.slice aN4 R.next.length cN4,.slice aA4 R.accept.length cA4] 26))
 replace hx:=(hx.trans he4).trans (Ext.alloc w3 (.cells #[.int .i64 R.alphabet,.slice aN4 R.next.length cN4,.slice aA4 R.accept.length cA4] 26))
 have hy:Ext w3 (w3.alloc (.cells #[.int .i64 R.alphabet,.slice aN4 R.next.length cN4,.slice aA4 R.accept.length cA4] 26)):=Ext.alloc _ _
 clear he4
 have b4:Blk (w3.alloc (.cells #[.int .i64 R.alphabet,.slice aN4 R.next.length cN4,.slice aA4 R.accept.length cA4] 26)) w3.heap.size #[.int .i64 R.alphabet,.slice aN4 R.next.length cN4,.slice aA4 R.accept.length cA4] 26:=Ext.blk (Ext.refl _)
 go_wp2_with fail
 clear dbT_0 dbT_1 dbT_2 dbT_3 dbT_4 dbT_5 dbT_6
 generalize (w3.alloc (.cells #[.int .i64 R.alphabet,.slice aN4 R.next.length cN4,.slice aA4 R.accept.length cA4] 26))=w4 at hx hy  bT b4⊢
 have bT_0:=bT.cell 0 rfl;have bT_1:=bT.cell 1 rfl;have bT_2:=bT.cell 2 rfl;have bT_3:=bT.cell 3 rfl;have bT_4:=bT.cell 4 rfl;have bT_5:=bT.cell 5 rfl;have bT_6:=bT.cell 6 rfl;have b4_0:=b4.cell 0 rfl;have b4_1:=b4.cell 1 rfl;have b4_2:=b4.cell 2 rfl
 refine (CS.out _ hx).mono ?_
 rintro e w5 ⟨u6,rfl,he6,hO6⟩
 clear bT_0 bT_1 bT_2 bT_3 bT_4 bT_5 bT_6 b4_0 b4_1 b4_2
 obtain ⟨vN6,vA6,rfl,hO6'⟩:=hO6
 obtain ⟨aN6,cN6,rfl⟩:=hO6'.1.shape
 obtain ⟨aA6,cA6,rfl⟩:=hO6'.2.shape
 have hN6:=hO6'.1.intss
 have hA6:=hO6'.2.bools
 have HW6:=Lib.hid (show ∀w',Ext w5 w'→AutoV w' (.agg #[.int .i64 R.alphabet,.slice aN6 R.next.length cN6,.slice aA6 R.accept.length cA6]) R from fun w' h=>⟨_,_,rfl,hN6.mono h,hA6.mono h⟩)
 clear hO6' hN6 hA6
 have dbT_0:=fun o=>((bT.ext he6).ext (Ext.alloc w5 o)).cell 0 rfl;have dbT_1:=fun o=>((bT.ext he6).ext (Ext.alloc w5 o)).cell 1 rfl;have dbT_2:=fun o=>((bT.ext he6).ext (Ext.alloc w5 o)).cell 2 rfl;have dbT_3:=fun o=>((bT.ext he6).ext (Ext.alloc w5 o)).cell 3 rfl;have dbT_4:=fun o=>((bT.ext he6).ext (Ext.alloc w5 o)).cell 4 rfl;have dbT_5:=fun o=>((bT.ext he6).ext (Ext.alloc w5 o)).cell 5 rfl;have dbT_6:=fun o=>((bT.ext he6).ext (Ext.alloc w5 o)).cell 6 rfl
 replace bT:=(bT.ext he6).ext (Ext.alloc w5 (.cells #[.int .i64 R.alphabet,.slice aN6 R.next.length cN6,.slice aA6 R.accept.length cA6] 26))
 have db4_0:=fun o=>((b4.ext he6).ext (Ext.alloc w5 o)).cell 0 rfl;have db4_1:=fun o=>((b4.ext he6).ext (Ext.alloc w5 o)).cell 1 rfl;have db4_2:=fun o=>((b4.ext he6).ext (Ext.alloc w5 o)).cell 2 rfl
 replace b4:=(b4.ext he6).ext (Ext.alloc w5 (.cells #[.int .i64 R.alphabet,.slice aN6 R.next.length cN6,.slice aA6 R.accept.length cA6] 26))
 replace hx:=(hx.trans he6).trans (Ext.alloc w5 (.cells #[.int .i64 R.alphabet,.slice aN6 R.next.length cN6,.slice aA6 R.accept.length cA6] 26))
 replace hy:=(hy.trans he6).trans (Ext.alloc w5 (.cells #[.int .i64 R.alphabet,.slice aN6 R.next.length cN6,.slice aA6 R.accept.length cA6] 26))
 have hz:Ext w5 (w5.alloc (.cells #[.int .i64 R.alphabet,.slice aN6 R.next.length cN6,.slice aA6 R.accept.length cA6] 26)):=Ext.alloc _ _
 clear he6
 have b6:Blk (w5.alloc (.cells #[.int .i64 R.alphabet,.slice aN6 R.next.length cN6,.slice aA6 R.accept.length cA6] 26)) w5.heap.size #[.int .i64 R.alphabet,.slice aN6 R.next.length cN6,.slice aA6 R.accept.length cA6] 26:=Ext.blk (Ext.refl _)
 go_wp2_with fail
 clear dbT_0 dbT_1 dbT_2 dbT_3 dbT_4 dbT_5 dbT_6 db4_0 db4_1 db4_2
 generalize (w5.alloc (.cells #[.int .i64 R.alphabet,.slice aN6 R.next.length cN6,.slice aA6 R.accept.length cA6] 26))=w6 at hx hy hz bT b4 b6⊢
 have bT_0:=bT.cell 0 rfl;have bT_1:=bT.cell 1 rfl;have bT_2:=bT.cell 2 rfl;have bT_3:=bT.cell 3 rfl;have bT_4:=bT.cell 4 rfl;have bT_5:=bT.cell 5 rfl;have bT_6:=bT.cell 6 rfl;have b4_0:=b4.cell 0 rfl;have b4_1:=b4.cell 1 rfl;have b4_2:=b4.cell 2 rfl;have b6_0:=b6.cell 0 rfl;have b6_1:=b6.cell 1 rfl;have b6_2:=b6.cell 2 rfl
 have CAG:=Lib.hid (show ∀w',Ext w3 w'→Ext w5 w'→Calls Tryz.prog 20 #[.agg #[.int .i64 R.alphabet,.slice aN4 R.next.length cN4,.slice aA4 R.accept.length cA4],.agg #[.int .i64 R.alphabet,.slice aN6 R.next.length cN6,.slice aA6 R.accept.length cA6]] w' (Grows (.bool true) w') from fun w' h h'=>by have:=agAutomata_c _ _ R R w' (HW4.out _ h) (HW6.out _ h');simpa using this)
 refine (CAG.out _ hy hz).mono ?_
 rintro e w7 ⟨rfl,he7⟩
 clear bT_0 bT_1 bT_2 bT_3 bT_4 bT_5 bT_6 b4_0 b4_1 b4_2 b6_0 b6_1 b6_2
 replace bT:=bT.ext he7
 replace b4:=b4.ext he7
 replace b6:=b6.ext he7
 replace hx:=hx.trans he7
 replace hy:=hy.trans he7
 replace hz:=hz.trans he7
 clear he7
 have bT_0:=bT.cell 0 rfl;have bT_1:=bT.cell 1 rfl;have bT_2:=bT.cell 2 rfl;have bT_3:=bT.cell 3 rfl;have bT_4:=bT.cell 4 rfl;have bT_5:=bT.cell 5 rfl;have bT_6:=bT.cell 6 rfl;have b4_0:=b4.cell 0 rfl;have b4_1:=b4.cell 1 rfl;have b4_2:=b4.cell 2 rfl;have b6_0:=b6.cell 0 rfl;have b6_1:=b6.cell 1 rfl;have b6_2:=b6.cell 2 rfl
 rcases bb with _ | _
 ·go_wp2_with fail
  refine (CAG.out _ hy hz).mono ?_
  rintro e w8 ⟨rfl,he8⟩
  go_wp2_with fail
  go_ret
  exact Grows.mk rfl ((he1.trans hx).trans he8)
 have hwk:weakOf T=some R:=by
  have h1:=HRR.out;have h2:=HBB.out
  cases h:weakOf T with
  | none=>rw [h] at h2;cases h2
  | some B=>rw [h] at h1;cases h1;rfl
 have HWK:=Lib.hid hwk
 clear hwk
 clear CAG CP CS HRR HBB
 clear bT_0 bT_1 bT_2 bT_3 bT_4 bT_5 bT_6 b4_0 b4_1 b4_2 b6_0 b6_1 b6_2 b6 hz
 go_wp2_with fail
 refine (DrawStateAfter_t _ t1 _ (HV1.out _ (he1.trans hx)) (by omega)).mono ?_
 rintro e wk ⟨r,D,rfl,hek,-,hTk,s,tx,rfl,hSS,-⟩
 obtain ⟨O,hPn7,hPa7,hPV7⟩:=hSS.auto hTk
 obtain ⟨vN7,vA7,rfl,hN7,hA7⟩:=hPV7
 obtain ⟨aN7,cN7,rfl,-,-⟩:=hN7.open
 obtain ⟨aA7,cA7,rfl,-,-⟩:=hA7.open
 have HO:=Lib.hid (show ∀w',Ext wk w'→AutoV w' (.agg #[.int .i64 O.alphabet,.slice aN7 O.next.length cN7,.slice aA7 O.accept.length cA7]) O from fun w' h=>⟨_,_,rfl,hN7.mono h,hA7.mono h⟩)
 clear hN7 hA7 hSS hTk hPn7 hPa7
 have hk7:Ext wk (wk.alloc (.cells #[.int .i64 O.alphabet,.slice aN7 O.next.length cN7,.slice aA7 O.accept.length cA7] 26)):=Ext.alloc _ _
 have b7:Blk (wk.alloc (.cells #[.int .i64 O.alphabet,.slice aN7 O.next.length cN7,.slice aA7 O.accept.length cA7] 26)) wk.heap.size #[.int .i64 O.alphabet,.slice aN7 O.next.length cN7,.slice aA7 O.accept.length cA7] 26:=Blk.new _ _ _
 replace bT:=(bT.ext hek).ext hk7
 replace b4:=(b4.ext hek).ext hk7
 replace hx:=(hx.trans hek).trans hk7
 replace hy:=(hy.trans hek).trans hk7
 clear hek
 go_wp2_with fail
 generalize wk.alloc (.cells #[.int .i64 O.alphabet,.slice aN7 O.next.length cN7,.slice aA7 O.accept.length cA7] 26)=wl at hx hy hk7 b7 b4 bT⊢
 have bT_0:=bT.cell 0 rfl;have bT_1:=bT.cell 1 rfl;have bT_2:=bT.cell 2 rfl;have bT_3:=bT.cell 3 rfl;have bT_4:=bT.cell 4 rfl;have bT_5:=bT.cell 5 rfl;have bT_6:=bT.cell 6 rfl;have b4_0:=b4.cell 0 rfl;have b4_1:=b4.cell 1 rfl;have b4_2:=b4.cell 2 rfl;have b7_0:=b7.cell 0 rfl;have b7_1:=b7.cell 1 rfl;have b7_2:=b7.cell 2 rfl
 go_wp2_with fail
 refine (SafetyPart_d _ O _ (HO.out _ hk7)).mono ?_
 rintro e wm ⟨u8,R8,rfl,he8,hO8,hR8⟩
 have HR8:=Lib.hid hR8
 clear hR8 b7_0 b7_1 b7_2 b7
 clear bT_0 bT_1 bT_2 bT_3 bT_4 bT_5 bT_6 b4_0 b4_1 b4_2
 obtain ⟨vN8,vA8,rfl,hO8'⟩:=hO8
 obtain ⟨aN8,cN8,rfl⟩:=hO8'.1.shape
 obtain ⟨aA8,cA8,rfl⟩:=hO8'.2.shape
 have hN8:=hO8'.1.intss
 have hA8:=hO8'.2.bools
 have HW8:=Lib.hid (show ∀w',Ext wm w'→AutoV w' (.agg #[.int .i64 R8.alphabet,.slice aN8 R8.next.length cN8,.slice aA8 R8.accept.length cA8]) R8 from fun w' h=>⟨_,_,rfl,hN8.mono h,hA8.mono h⟩)
 clear hO8' hN8 hA8
 have dbT_0:=fun o=>((bT.ext he8).ext (Ext.alloc wm o)).cell 0 rfl;have dbT_1:=fun o=>((bT.ext he8).ext (Ext.alloc wm o)).cell 1 rfl;have dbT_2:=fun o=>((bT.ext he8).ext (Ext.alloc wm o)).cell 2 rfl;have dbT_3:=fun o=>((bT.ext he8).ext (Ext.alloc wm o)).cell 3 rfl;have dbT_4:=fun o=>((bT.ext he8).ext (Ext.alloc wm o)).cell 4 rfl;have dbT_5:=fun o=>((bT.ext he8).ext (Ext.alloc wm o)).cell 5 rfl;have dbT_6:=fun o=>((bT.ext he8).ext (Ext.alloc wm o)).cell 6 rfl
 replace bT:=(bT.ext he8).ext (Ext.alloc wm (.cells #[.int .i64 R8.alphabet,.slice aN8 R8.next.length cN8,.slice aA8 R8.accept.length cA8] 26))
 have db4_0:=fun o=>((b4.ext he8).ext (Ext.alloc wm o)).cell 0 rfl;have db4_1:=fun o=>((b4.ext he8).ext (Ext.alloc wm o)).cell 1 rfl;have db4_2:=fun o=>((b4.ext he8).ext (Ext.alloc wm o)).cell 2 rfl
 replace b4:=(b4.ext he8).ext (Ext.alloc wm (.cells #[.int .i64 R8.alphabet,.slice aN8 R8.next.length cN8,.slice aA8 R8.accept.length cA8] 26))
 replace hx:=(hx.trans he8).trans (Ext.alloc wm (.cells #[.int .i64 R8.alphabet,.slice aN8 R8.next.length cN8,.slice aA8 R8.accept.length cA8] 26))
 replace hy:=(hy.trans he8).trans (Ext.alloc wm (.cells #[.int .i64 R8.alphabet,.slice aN8 R8.next.length cN8,.slice aA8 R8.accept.length cA8] 26))
 have h8:Ext wm (wm.alloc (.cells #[.int .i64 R8.alphabet,.slice aN8 R8.next.length cN8,.slice aA8 R8.accept.length cA8] 26)):=Ext.alloc _ _
 clear he8
 have b8:Blk (wm.alloc (.cells #[.int .i64 R8.alphabet,.slice aN8 R8.next.length cN8,.slice aA8 R8.accept.length cA8] 26)) wm.heap.size #[.int .i64 R8.alphabet,.slice aN8 R8.next.length cN8,.slice aA8 R8.accept.length cA8] 26:=Ext.blk (Ext.refl _)
 go_wp2_with fail
 clear dbT_0 dbT_1 dbT_2 dbT_3 dbT_4 dbT_5 dbT_6 db4_0 db4_1 db4_2
 generalize (wm.alloc (.cells #[.int .i64 R8.alphabet,.slice aN8 R8.next.length cN8,.slice aA8 R8.accept.length cA8] 26))=wn at hx hy h8 b8 bT b4⊢
 have bT_0:=bT.cell 0 rfl;have bT_1:=bT.cell 1 rfl;have bT_2:=bT.cell 2 rfl;have bT_3:=bT.cell 3 rfl;have bT_4:=bT.cell 4 rfl;have bT_5:=bT.cell 5 rfl;have bT_6:=bT.cell 6 rfl;have b4_0:=b4.cell 0 rfl;have b4_1:=b4.cell 1 rfl;have b4_2:=b4.cell 2 rfl;have b8_0:=b8.cell 0 rfl;have b8_1:=b8.cell 1 rfl;have b8_2:=b8.cell 2 rfl
 refine (ExtendAutomaton_c _ R8 T.alphabet _ (HW8.out _ h8)).mono ?_
 rintro e wp ⟨u9,R9,rfl,he9,hO9,hR9⟩
 have HR9:=Lib.hid hR9
 clear hR9
 obtain ⟨v1,hv1⟩:∃v1,autoValid O=v1:=⟨_,rfl⟩
 rw [hv1]
 have HVO:=Lib.hid hv1
 obtain ⟨v2,hv2⟩:∃v2,(autoValid R8&&isAlpha T.alphabet)=v2:=⟨_,rfl⟩
 rw [hv2]
 have HV2:=Lib.hid hv2
 clear hv1 hv2
 clear b8_0 b8_1 b8_2
 clear bT_0 bT_1 bT_2 bT_3 bT_4 bT_5 bT_6 b4_0 b4_1 b4_2
 obtain ⟨vN9,vA9,rfl,hO9'⟩:=hO9
 obtain ⟨aN9,cN9,rfl⟩:=hO9'.1.shape
 obtain ⟨aA9,cA9,rfl⟩:=hO9'.2.shape
 have hN9:=hO9'.1.intss
 have hA9:=hO9'.2.bools
 have HW9:=Lib.hid (show ∀w',Ext wp w'→AutoV w' (.agg #[.int .i64 R9.alphabet,.slice aN9 R9.next.length cN9,.slice aA9 R9.accept.length cA9]) R9 from fun w' h=>⟨_,_,rfl,hN9.mono h,hA9.mono h⟩)
 clear hO9' hN9 hA9
 have dbT_0:=fun o=>((bT.ext he9).ext (Ext.alloc wp o)).cell 0 rfl;have dbT_1:=fun o=>((bT.ext he9).ext (Ext.alloc wp o)).cell 1 rfl;have dbT_2:=fun o=>((bT.ext he9).ext (Ext.alloc wp o)).cell 2 rfl;have dbT_3:=fun o=>((bT.ext he9).ext (Ext.alloc wp o)).cell 3 rfl;have dbT_4:=fun o=>((bT.ext he9).ext (Ext.alloc wp o)).cell 4 rfl;have dbT_5:=fun o=>((bT.ext he9).ext (Ext.alloc wp o)).cell 5 rfl;have dbT_6:=fun o=>((bT.ext he9).ext (Ext.alloc wp o)).cell 6 rfl
 replace bT:=(bT.ext he9).ext (Ext.alloc wp (.cells #[.int .i64 R9.alphabet,.slice aN9 R9.next.length cN9,.slice aA9 R9.accept.length cA9] 26))
 have db4_0:=fun o=>((b4.ext he9).ext (Ext.alloc wp o)).cell 0 rfl;have db4_1:=fun o=>((b4.ext he9).ext (Ext.alloc wp o)).cell 1 rfl;have db4_2:=fun o=>((b4.ext he9).ext (Ext.alloc wp o)).cell 2 rfl
 replace b4:=(b4.ext he9).ext (Ext.alloc wp (.cells #[.int .i64 R9.alphabet,.slice aN9 R9.next.length cN9,.slice aA9 R9.accept.length cA9] 26))
 replace hx:=(hx.trans he9).trans (Ext.alloc wp (.cells #[.int .i64 R9.alphabet,.slice aN9 R9.next.length cN9,.slice aA9 R9.accept.length cA9] 26))
 replace hy:=(hy.trans he9).trans (Ext.alloc wp (.cells #[.int .i64 R9.alphabet,.slice aN9 R9.next.length cN9,.slice aA9 R9.accept.length cA9] 26))
 have h9:Ext wp (wp.alloc (.cells #[.int .i64 R9.alphabet,.slice aN9 R9.next.length cN9,.slice aA9 R9.accept.length cA9] 26)):=Ext.alloc _ _
 clear he9
 have b9:Blk (wp.alloc (.cells #[.int .i64 R9.alphabet,.slice aN9 R9.next.length cN9,.slice aA9 R9.accept.length cA9] 26)) wp.heap.size #[.int .i64 R9.alphabet,.slice aN9 R9.next.length cN9,.slice aA9 R9.accept.length cA9] 26:=Ext.blk (Ext.refl _)
 go_upto_region 11 with fail
 clear dbT_0 dbT_1 dbT_2 dbT_3 dbT_4 dbT_5 dbT_6 db4_0 db4_1 db4_2
 generalize (wp.alloc (.cells #[.int .i64 R9.alphabet,.slice aN9 R9.next.length cN9,.slice aA9 R9.accept.length cA9] 26))=wq at hx hy h9 b9 bT b4⊢
 have bT_0:=bT.cell 0 rfl;have bT_1:=bT.cell 1 rfl;have bT_2:=bT.cell 2 rfl;have bT_3:=bT.cell 3 rfl;have bT_4:=bT.cell 4 rfl;have bT_5:=bT.cell 5 rfl;have bT_6:=bT.cell 6 rfl;have b4_0:=b4.cell 0 rfl;have b4_1:=b4.cell 1 rfl;have b4_2:=b4.cell 2 rfl;have b9_0:=b9.cell 0 rfl;have b9_1:=b9.cell 1 rfl;have b9_2:=b9.cell 2 rfl
 cases v1 with
 | false=>
  go_wp2_with fail
  go_ret
  exact Grows.mk rfl (he1.trans hx)
 | true=>
  cases v2 with
  | false=>
   go_wp2_with fail
   go_ret
   exact Grows.mk rfl (he1.trans hx)
  | true=>
   by_cases ha:R9.alphabet=T.alphabet
   ·have HA:=Lib.hid ha
    have hne:(R9.alphabet != T.alphabet)=false:=by simp [ha]
    have hk0:underB T.sys R9 T.prop=withinB R9 R:=ww_law HVO.out HV2.out (by have:=HR8.out;rwa [if_pos HVO.out] at this) (by have:=HR9.out;rwa [if_pos HV2.out] at this) ha HWK.out
    obtain ⟨k,hk⟩:∃k,withinB R9 R=k:=⟨_,rfl⟩
    rw [hk] at hk0
    have C1:=Lib.hid (show ∀w',Ext w1 w'→Ext wp w'→Calls Tryz.prog 16 #[.agg #[.int .i64 T.sys.alphabet,.int .i64 T.sys.states,.slice aE1 T.sys.edges.length cE1],.agg #[.int .i64 R9.alphabet,.slice aN9 R9.next.length cN9,.slice aA9 R9.accept.length cA9],.agg #[.int .i64 T.prop.alphabet,.slice aN1 T.prop.next.length cN1,.slice aA1 T.prop.accept.length cA1]] w' (Grows (.bool k) w') from fun w' h h'=>by have:=KeepsUnder_cd _ _ _ T.sys R9 T.prop _ (HSY.out _ h) (HW9.out _ h') (HAU.out _ h) (HD.out _ h);rwa [hk0] at this)
    have C2:=Lib.hid (show ∀w',Ext wp w'→Ext w3 w'→Calls Tryz.prog 12 #[.agg #[.int .i64 R9.alphabet,.slice aN9 R9.next.length cN9,.slice aA9 R9.accept.length cA9],.agg #[.int .i64 R.alphabet,.slice aN4 R.next.length cN4,.slice aA4 R.accept.length cA4]] w' (Grows (.bool k) w') from fun w' h h'=>by have:=LanguageWithin_c _ _ R9 R _ (HW9.out _ h) (HW4.out _ h');rwa [hk] at this)
    clear hk0 hk ha
    go_upto_region 13 with fail
    clear bT_0 bT_1 bT_2 bT_3 bT_4 bT_5 bT_6 b4_0 b4_1 b4_2 b9_0 b9_1 b9_2
    have DbT0:=fun d os=>cell_regrown (bT.cell 0 rfl) d os
    have DbT1:=fun d os=>cell_regrown (bT.cell 1 rfl) d os
    have DbT2:=fun d os=>cell_regrown (bT.cell 2 rfl) d os
    have DbT3:=fun d os=>cell_regrown (bT.cell 3 rfl) d os
    have DbT4:=fun d os=>cell_regrown (bT.cell 4 rfl) d os
    have DbT5:=fun d os=>cell_regrown (bT.cell 5 rfl) d os
    have DbT6:=fun d os=>cell_regrown (bT.cell 6 rfl) d os
    have Db40:=fun d os=>cell_regrown (b4.cell 0 rfl) d os
    have Db41:=fun d os=>cell_regrown (b4.cell 1 rfl) d os
    have Db42:=fun d os=>cell_regrown (b4.cell 2 rfl) d os
    have Db90:=fun d os=>cell_regrown (b9.cell 0 rfl) d os
    have Db91:=fun d os=>cell_regrown (b9.cell 1 rfl) d os
    have Db92:=fun d os=>cell_regrown (b9.cell 2 rfl) d os
    refine wp_region_quiet_below (by kernel_rfl) (by kernel_rfl) ?_
    repeat (go_big_quiet_step ((first | (go_at_call 16;exact Grows.quiet (C1.out _ (hx.trans (below_regrown _ _ _)) (h9.trans (below_regrown _ _ _)))) | (go_at_call 12;exact Grows.quiet (C2.out _ (h9.trans (below_regrown _ _ _)) (hy.trans (below_regrown _ _ _)))))))
    refine wpQuiet_nil ?_
    intro _ hw'
    obtain ⟨⟨dq,osq⟩,hw''⟩:=hw'
    subst hw''
    have hq2:Ext wq (Go.Sort.grow (redrawn wq dq) osq):=below_regrown wq dq osq
    generalize Go.Sort.grow (redrawn wq dq) osq=wq at hq2⊢
    go_wp2_with fail
    go_ret
    exact Grows.mk (by simp) ((he1.trans hx).trans hq2)
   ·have hne:(R9.alphabet != T.alphabet)=true:=by simp [ha]
    go_wp2_with fail
    go_ret
    exact Grows.mk rfl (he1.trans hx)
end Go.Proofs.YtccklliljdembaaGreatDoor.lawFnWeakestWeakest
