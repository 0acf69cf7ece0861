import Derived.Test.YtadplnbadfnlfaaGreatDoorDrawV
import Derived.Test.YtadplnbadfnlfaaGreatDoorAgD
import Derived.Test.YtadplnbadfnlfaaGreatDoorWalkWs
import Derived.Test.YtadplnbadfnlfaaGreatDoorDet
import Derived.Test.YtadplnbadfnlfaaGreatDoorDrawL
namespace Go.Proofs.YtadplnbadfnlfaaGreatDoor.lawFnWeakestKeeps
open Go.ChangeShapes Go.WideShapes Go.ChangeAt Go.RowKit
open Go.Proofs.YtadplnbadfnlfaaGreatDoor
open Go.ChangeMaps (open_string shut_string)
set_option linter.unusedVariables false
set_option linter.unusedSimpArgs false
set_option maxHeartbeats 1600000
set_option maxRecDepth 100000
theorem weak_keeps {t:Task} {B:Auto} (h:weakOf t=some B):underB t.sys B t.prop=true:=by
 obtain ⟨h1,h2,h3⟩:=weak_acc h
 obtain ⟨vS,vP,hI⟩:=taskValid_facts (weakOf_some h).1
 refine underB_iff.2 ⟨vS,h1,vP,fun v k1 k2 k3=>?_⟩
 exact (h3 v).1 k3 v (fun x hx=>by rw [h2] at k1;exact k1 x hx) (List.prefix_refl _) k2
theorem walk (v0:Value) (t0:List UInt8) (w:World) (hv0:BytesV w v0 t0) (hD:Deb w):Calls Tryz.prog 10 #[v0] w (Grows (.bool true) w):=by
 obtain ⟨aB,cB,rfl,hleB,-⟩:=hv0.open
 have HDb:=Lib.hid hD
 clear hD
 by_cases hz0:1048576<t0.length
 ·go_enter Tryz.func10,Tryz.ntmps10
  go_wp2_with fail
  go_ret
  exact Grows.mk rfl (Ext.refl _)
 go_enter Tryz.func10,Tryz.ntmps10
 go_wp2_with fail
 refine (DrawWeakestAssumption_t _ t0 _ hv0 (by omega)).mono ?_
 rintro e w1 ⟨vt,T,rfl,he1,hTV,hed⟩
 obtain ⟨vE1,vN1,vA1,rfl,hE1,hN1,hA1⟩:=hTV
 obtain ⟨aE1,cE1,rfl,-,-⟩:=hE1.open
 obtain ⟨aN1,cN1,rfl,-,-⟩:=hN1.open
 obtain ⟨aA1,cA1,rfl,-,-⟩:=hA1.open
 have HT:=Lib.hid (show ∀w',Ext w1 w'→TaskV w' (.agg #[.int .i64 T.sys.alphabet,.int .i64 T.sys.states,.slice aE1 T.sys.edges.length cE1,.int .i64 T.prop.alphabet,.slice aN1 T.prop.next.length cN1,.slice aA1 T.prop.accept.length cA1,.int .i64 T.alphabet]) T from fun w' h=>⟨_,_,_,rfl,hE1.mono h,hN1.mono h,hA1.mono h⟩)
 have HSY:=Lib.hid (show ∀w',Ext w1 w'→SysV w' (.agg #[.int .i64 T.sys.alphabet,.int .i64 T.sys.states,.slice aE1 T.sys.edges.length cE1]) T.sys from fun w' h=>⟨_,rfl,hE1.mono h⟩)
 have HAU:=Lib.hid (show ∀w',Ext w1 w'→AutoV w' (.agg #[.int .i64 T.prop.alphabet,.slice aN1 T.prop.next.length cN1,.slice aA1 T.prop.accept.length cA1]) T.prop from fun w' h=>⟨_,_,rfl,hN1.mono h,hA1.mono h⟩)
 have HD:=Lib.hid (show ∀w',Ext w1 w'→Deb w' from fun w' h=>HDb.out.ext (he1.trans h))
 obtain ⟨R,hR⟩:∃R,(weakOf T).getD zeroA=R:=⟨_,rfl⟩
 obtain ⟨bb,hbb⟩:∃bb,(weakOf T).isSome=bb:=⟨_,rfl⟩
 have CS:=Lib.hid (show ∀w',Ext w1 w'→Calls Tryz.prog 47 #[.agg #[.int .i64 T.sys.alphabet,.int .i64 T.sys.states,.slice aE1 T.sys.edges.length cE1,.int .i64 T.prop.alphabet,.slice aN1 T.prop.next.length cN1,.slice aA1 T.prop.accept.length cA1,.int .i64 T.alphabet]] w' (fun e w''=>∃u,e=.returned (.tuple #[u,.bool bb])∧Ext w' w''∧AutoOwn w'.heap.size w'' u R) from fun w' h=>(by have:=WeakestAssumption_sd _ T w' (HT.out _ h) (by omega);unfold WeakDet at this;rwa [hR,hbb] at this))
 have CP:=Lib.hid (show ∀w',Ext w1 w'→Calls Tryz.prog 39 #[.agg #[.int .i64 T.sys.alphabet,.int .i64 T.sys.states,.slice aE1 T.sys.edges.length cE1,.int .i64 T.prop.alphabet,.slice aN1 T.prop.next.length cN1,.slice aA1 T.prop.accept.length cA1,.int .i64 T.alphabet]] w' (fun e w''=>∃u,e=.returned (.tuple #[u,.bool bb])∧Ext w' w''∧AutoOwn w'.heap.size w'' u R) from fun w' h=>(by have:=WeakestAssumption_cd _ T w' (HT.out _ h) (HD.out _ h);unfold WeakDet at this;rwa [hR,hbb] at this))
 have HRR:=Lib.hid hR
 have HBB:=Lib.hid hbb
 clear hE1 hN1 hA1 hR hbb hed
 have hx:Ext w1 (w1.alloc (.cells #[.int .i64 T.sys.alphabet,.int .i64 T.sys.states,.slice aE1 T.sys.edges.length cE1,.int .i64 T.prop.alphabet,.slice aN1 T.prop.next.length cN1,.slice aA1 T.prop.accept.length cA1,.int .i64 T.alphabet] 57)):=Ext.alloc _ _
 have bT:Blk (w1.alloc (.cells #[.int .i64 T.sys.alphabet,.int .i64 T.sys.states,.slice aE1 T.sys.edges.length cE1,.int .i64 T.prop.alphabet,.slice aN1 T.prop.next.length cN1,.slice aA1 T.prop.accept.length cA1,.int .i64 T.alphabet] 57)) w1.heap.size #[.int .i64 T.sys.alphabet,.int .i64 T.sys.states,.slice aE1 T.sys.edges.length cE1,.int .i64 T.prop.alphabet,.slice aN1 T.prop.next.length cN1,.slice aA1 T.prop.accept.length cA1,.int .i64 T.alphabet] 57:=Ext.blk (Ext.refl _)
 go_wp2_with fail
 generalize (w1.alloc (.cells #[.int .i64 T.sys.alphabet,.int .i64 T.sys.states,.slice aE1 T.sys.edges.length cE1,.int .i64 T.prop.alphabet,.slice aN1 T.prop.next.length cN1,.slice aA1 T.prop.accept.length cA1,.int .i64 T.alphabet] 57))=w2 at hx bT⊢
 have bT_0:=bT.cell 0 rfl;have bT_1:=bT.cell 1 rfl;have bT_2:=bT.cell 2 rfl;have bT_3:=bT.cell 3 rfl;have bT_4:=bT.cell 4 rfl;have bT_5:=bT.cell 5 rfl;have bT_6:=bT.cell 6 rfl
 go_wp2_with fail
 refine (CP.out _ hx).mono ?_
 rintro e w3 ⟨u4,rfl,he4,hO4⟩
 clear bT_0 bT_1 bT_2 bT_3 bT_4 bT_5 bT_6
 obtain ⟨vN4,vA4,rfl,hO4'⟩:=hO4
 obtain ⟨aN4,cN4,rfl⟩:=hO4'.1.shape
 obtain ⟨aA4,cA4,rfl⟩:=hO4'.2.shape
 have hN4:=hO4'.1.intss
 have hA4:=hO4'.2.bools
 have HW4:=Lib.hid (show ∀w',Ext w3 w'→AutoV w' (.agg #[.int .i64 R.alphabet,.slice aN4 R.next.length cN4,.slice aA4 R.accept.length cA4]) R from fun w' h=>⟨_,_,rfl,hN4.mono h,hA4.mono h⟩)
 clear hO4' hN4 hA4
 have dbT_0:=fun o=>((bT.ext he4).ext (Ext.alloc w3 o)).cell 0 rfl;have dbT_1:=fun o=>((bT.ext he4).ext (Ext.alloc w3 o)).cell 1 rfl;have dbT_2:=fun o=>((bT.ext he4).ext (Ext.alloc w3 o)).cell 2 rfl;have dbT_3:=fun o=>((bT.ext he4).ext (Ext.alloc w3 o)).cell 3 rfl;have dbT_4:=fun o=>((bT.ext he4).ext (Ext.alloc w3 o)).cell 4 rfl;have dbT_5:=fun o=>((bT.ext he4).ext (Ext.alloc w3 o)).cell 5 rfl;have dbT_6:=fun o=>((bT.ext he4).ext (Ext.alloc w3 o)).cell 6 rfl
 replace bT:=(bT.ext he4).ext (Ext.alloc w3 (.cells #[.int .i64 R.alphabet,.slice aN4 R.next.length cN4,.slice aA4 R.accept.length cA4] 31))
 replace hx:=(hx.trans he4).trans (Ext.alloc w3 (.cells #[.int .i64 R.alphabet,.slice aN4 R.next.length cN4,.slice aA4 R.accept.length cA4] 31))
 have hy:Ext w3 (w3.alloc (.cells #[.int .i64 R.alphabet,.slice aN4 R.next.length cN4,.slice aA4 R.accept.length cA4] 31)):=Ext.alloc _ _
 clear he4
 have b4:Blk (w3.alloc (.cells #[.int .i64 R.alphabet,.slice aN4 R.next.length cN4,.slice aA4 R.accept.length cA4] 31)) w3.heap.size #[.int .i64 R.alphabet,.slice aN4 R.next.length cN4,.slice aA4 R.accept.length cA4] 31:=Ext.blk (Ext.refl _)
 go_wp2_with fail
 clear dbT_0 dbT_1 dbT_2 dbT_3 dbT_4 dbT_5 dbT_6
 generalize (w3.alloc (.cells #[.int .i64 R.alphabet,.slice aN4 R.next.length cN4,.slice aA4 R.accept.length cA4] 31))=w4 at hx hy  bT b4⊢
 have bT_0:=bT.cell 0 rfl;have bT_1:=bT.cell 1 rfl;have bT_2:=bT.cell 2 rfl;have bT_3:=bT.cell 3 rfl;have bT_4:=bT.cell 4 rfl;have bT_5:=bT.cell 5 rfl;have bT_6:=bT.cell 6 rfl;have b4_0:=b4.cell 0 rfl;have b4_1:=b4.cell 1 rfl;have b4_2:=b4.cell 2 rfl
 refine (CS.out _ hx).mono ?_
 rintro e w5 ⟨u6,rfl,he6,hO6⟩
 clear bT_0 bT_1 bT_2 bT_3 bT_4 bT_5 bT_6 b4_0 b4_1 b4_2
 obtain ⟨vN6,vA6,rfl,hO6'⟩:=hO6
 obtain ⟨aN6,cN6,rfl⟩:=hO6'.1.shape
 obtain ⟨aA6,cA6,rfl⟩:=hO6'.2.shape
 have hN6:=hO6'.1.intss
 have hA6:=hO6'.2.bools
 have HW6:=Lib.hid (show ∀w',Ext w5 w'→AutoV w' (.agg #[.int .i64 R.alphabet,.slice aN6 R.next.length cN6,.slice aA6 R.accept.length cA6]) R from fun w' h=>⟨_,_,rfl,hN6.mono h,hA6.mono h⟩)
 clear hO6' hN6 hA6
 have dbT_0:=fun o=>((bT.ext he6).ext (Ext.alloc w5 o)).cell 0 rfl;have dbT_1:=fun o=>((bT.ext he6).ext (Ext.alloc w5 o)).cell 1 rfl;have dbT_2:=fun o=>((bT.ext he6).ext (Ext.alloc w5 o)).cell 2 rfl;have dbT_3:=fun o=>((bT.ext he6).ext (Ext.alloc w5 o)).cell 3 rfl;have dbT_4:=fun o=>((bT.ext he6).ext (Ext.alloc w5 o)).cell 4 rfl;have dbT_5:=fun o=>((bT.ext he6).ext (Ext.alloc w5 o)).cell 5 rfl;have dbT_6:=fun o=>((bT.ext he6).ext (Ext.alloc w5 o)).cell 6 rfl
 replace bT:=(bT.ext he6).ext (Ext.alloc w5 (.cells #[.int .i64 R.alphabet,.slice aN6 R.next.length cN6,.slice aA6 R.accept.length cA6] 31))
 have db4_0:=fun o=>((b4.ext he6).ext (Ext.alloc w5 o)).cell 0 rfl;have db4_1:=fun o=>((b4.ext he6).ext (Ext.alloc w5 o)).cell 1 rfl;have db4_2:=fun o=>((b4.ext he6).ext (Ext.alloc w5 o)).cell 2 rfl
 replace b4:=(b4.ext he6).ext (Ext.alloc w5 (.cells #[.int .i64 R.alphabet,.slice aN6 R.next.length cN6,.slice aA6 R.accept.length cA6] 31))
 replace hx:=(hx.trans he6).trans (Ext.alloc w5 (.cells #[.int .i64 R.alphabet,.slice aN6 R.next.length cN6,.slice aA6 R.accept.length cA6] 31))
 replace hy:=(hy.trans he6).trans (Ext.alloc w5 (.cells #[.int .i64 R.alphabet,.slice aN6 R.next.length cN6,.slice aA6 R.accept.length cA6] 31))
 have hz:Ext w5 (w5.alloc (.cells #[.int .i64 R.alphabet,.slice aN6 R.next.length cN6,.slice aA6 R.accept.length cA6] 31)):=Ext.alloc _ _
 clear he6
 have b6:Blk (w5.alloc (.cells #[.int .i64 R.alphabet,.slice aN6 R.next.length cN6,.slice aA6 R.accept.length cA6] 31)) w5.heap.size #[.int .i64 R.alphabet,.slice aN6 R.next.length cN6,.slice aA6 R.accept.length cA6] 31:=Ext.blk (Ext.refl _)
 go_wp2_with fail
 clear dbT_0 dbT_1 dbT_2 dbT_3 dbT_4 dbT_5 dbT_6 db4_0 db4_1 db4_2
 generalize (w5.alloc (.cells #[.int .i64 R.alphabet,.slice aN6 R.next.length cN6,.slice aA6 R.accept.length cA6] 31))=w6 at hx hy hz bT b4 b6⊢
 have bT_0:=bT.cell 0 rfl;have bT_1:=bT.cell 1 rfl;have bT_2:=bT.cell 2 rfl;have bT_3:=bT.cell 3 rfl;have bT_4:=bT.cell 4 rfl;have bT_5:=bT.cell 5 rfl;have bT_6:=bT.cell 6 rfl;have b4_0:=b4.cell 0 rfl;have b4_1:=b4.cell 1 rfl;have b4_2:=b4.cell 2 rfl;have b6_0:=b6.cell 0 rfl;have b6_1:=b6.cell 1 rfl;have b6_2:=b6.cell 2 rfl
 have CAG:=Lib.hid (show ∀w',Ext w3 w'→Ext w5 w'→Calls Tryz.prog 48 #[.agg #[.int .i64 R.alphabet,.slice aN4 R.next.length cN4,.slice aA4 R.accept.length cA4],.agg #[.int .i64 R.alphabet,.slice aN6 R.next.length cN6,.slice aA6 R.accept.length cA6]] w' (Grows (.bool true) w') from fun w' h h'=>by have:=agAutomata_c _ _ R R w' (HW4.out _ h) (HW6.out _ h');simpa using this)
 refine (CAG.out _ hy hz).mono ?_
 rintro e w7 ⟨rfl,he7⟩
 clear bT_0 bT_1 bT_2 bT_3 bT_4 bT_5 bT_6 b4_0 b4_1 b4_2 b6_0 b6_1 b6_2
 replace bT:=bT.ext he7
 replace b4:=b4.ext he7
 replace b6:=b6.ext he7
 replace hx:=hx.trans he7
 replace hy:=hy.trans he7
 replace hz:=hz.trans he7
 clear he7
 have bT_0:=bT.cell 0 rfl;have bT_1:=bT.cell 1 rfl;have bT_2:=bT.cell 2 rfl;have bT_3:=bT.cell 3 rfl;have bT_4:=bT.cell 4 rfl;have bT_5:=bT.cell 5 rfl;have bT_6:=bT.cell 6 rfl;have b4_0:=b4.cell 0 rfl;have b4_1:=b4.cell 1 rfl;have b4_2:=b4.cell 2 rfl;have b6_0:=b6.cell 0 rfl;have b6_1:=b6.cell 1 rfl;have b6_2:=b6.cell 2 rfl
 rcases bb with _ | _
 ·go_wp2_with fail
  refine (CAG.out _ hy hz).mono ?_
  rintro e w8 ⟨rfl,he8⟩
  go_wp2_with fail
  go_ret
  exact Grows.mk rfl ((he1.trans hx).trans he8)
 have hwk:weakOf T=some R:=by
  have h1:=HRR.out;have h2:=HBB.out
  cases h:weakOf T with
  | none=>rw [h] at h2;cases h2
  | some B=>rw [h] at h1;cases h1;rfl
 have HWK:=Lib.hid hwk
 clear hwk
 have CK:=Lib.hid (show ∀w',Ext w1 w'→Ext w3 w'→Calls Tryz.prog 49 #[.agg #[.int .i64 T.sys.alphabet,.int .i64 T.sys.states,.slice aE1 T.sys.edges.length cE1],.agg #[.int .i64 R.alphabet,.slice aN4 R.next.length cN4,.slice aA4 R.accept.length cA4],.agg #[.int .i64 T.prop.alphabet,.slice aN1 T.prop.next.length cN1,.slice aA1 T.prop.accept.length cA1]] w' (Grows (.bool true) w') from fun w' h h'=>by have:=KeepsUnder_cd _ _ _ T.sys R T.prop w' (HSY.out _ h) (HW4.out _ h') (HAU.out _ h) (HD.out _ h);rwa [weak_keeps HWK.out] at this)
 go_wp2_with fail
 refine (CK.out _ hx hy).mono ?_
 rintro e w8 ⟨rfl,he8⟩
 go_wp2_with fail
 go_ret
 exact Grows.mk rfl ((he1.trans hx).trans he8)
end Go.Proofs.YtadplnbadfnlfaaGreatDoor.lawFnWeakestKeeps
