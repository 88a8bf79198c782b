/- A request in its normal form: the reference's (gateref2.NormalOf). Conditions: a request of modest size whose query reads as few pairs; the library's variables lie as they should. -/
import Derived.Test.YtnlloaimplgjnaaGreatDoorQryTGrp
import Derived.Test.YtnlloaimplgjnaaGreatDoorQryPtGrp
import Derived.Test.YtnlloaimplgjnaaGreatDoorRtNeedGrp
import Derived.Test.YtnlloaimplgjnaaGreatDoorPathOf1Grp
import Derived.Test.YtnlloaimplgjnaaGreatDoorHdrFGrp
namespace Go.Proofs.YtnlloaimplgjnaaGreatDoor
open Go.RowKit
set_option linter.unusedVariables false
set_option linter.unusedSimpArgs false
set_option maxRecDepth 100000 in
set_option maxHeartbeats 2000000 in
theorem ref2_normalOf (r:ReqD) (ls:List PairD) (w:World) (h:HSl w r.ha r.hn ls) (hf:r.Fit ls) (hx:MaxLn w) (hT:Pow10 w) (hE:ErrSyn w):
  Calls Tryz.prog 47 #[r.val] w (RNrm (normOf (r.data ls)) w):=by
 have HCK:=hId (fun W (hm:New w W)=>ref_requestFault r ls W (h.new hm) hf (hx.new hm) (hT.new hm))
 obtain⟨D,hD⟩:∃ D,r.data ls=D:=⟨_,rfl⟩
 have HDD:=hId hD
 rw [hD]
 rw [hD]at HCK
 clear hD
 obtain⟨at_,me,ho,pa,qu,fr,A,n,c,bo⟩:=r
 obtain⟨i0,z1,z2,z3,⟨z4,z4q⟩,z5,z6,z7,z8⟩:=hf
 simp only [ReqD.val]at h z1 z2 z3 z4 z4q z5 z6 z7 HCK ⊢
 have HHS:=hId h
 have HHX:=hId hx
 have HHT:=hId hT
 have HHE:=hId hE
 have HZ8:=hId z8
 have HFEW:Hid ((queryOf qu).2.length≤19):=hId z4q
 clear h hx hT hE z8 i0 z5 z6 z4q
 have hb:=Blk.new w 33 #[.int .i64 at_,.string me,.string ho,.string pa,.string qu,.string fr,.slice A n c,.string bo]
 have hm:New w (w.alloc (.cells #[.int .i64 at_,.string me,.string ho,.string pa,.string qu,.string fr,.slice A n c,.string bo] 33)):=(Mod.refl _ _).alloc _
 have hz1:(w.alloc (.cells #[.int .i64 at_,.string me,.string ho,.string pa,.string qu,.string fr,.slice A n c,.string bo] 33)).heap.size=w.heap.size+1:=by simp
 go_enter Tryz.func47,Tryz.ntmps47
 go_upto_region 1 with(fail)
 generalize w.alloc (.cells #[.int .i64 at_,.string me,.string ho,.string pa,.string qu,.string fr,.slice A n c,.string bo] 33)=wA at *
 have hr:=Blk.new wA 33 zReq
 have hm2:New wA (wA.alloc (.cells zReq 33)):=(Mod.refl _ _).alloc _
 have HX:=hId (hb.new2 hm2)
 have HM:=hId (hm.trans hm2)
 rw [hz1]at hr
 have HR:=hId hr
 clear hb hm hr hm2
 generalize wA.alloc (.cells zReq 33)=w1 at *
 have hxr:w.heap.size≠w.heap.size+1:=by omega
 clear hz1
 generalize hxb:w.heap.size=xb at *
 have HXB:=hId hxb
 clear hxb
 generalize hrb:xb+1=rb at *
 have HRX:=hId hrb
 clear hrb
 have HN0:Hid (normOf D=if reqF D≠0 then(reqF D,zReqL) else if (pathN pa).1≠0 then((pathN pa).1,zReqL) else if (queryOf qu).1≠0 then((queryOf qu).1,zReqL) else
  if (queryT (sortQ (queryOf qu).2)).1≠0 then((queryT (sortQ (queryOf qu).2)).1,zReqL) else
  (0,⟨at_,upS me,⟨(hostN ho.data.toList).toArray⟩,⟨(pathN pa).2.toArray⟩,⟨(queryT (sortQ (queryOf qu).2)).2.toArray⟩,fr,lowH ls,bo⟩)):=hId (by rw [← HDD.out];rfl)
 have HRT:Hid (reqF D=0→isTok me=true∧hostForm ho=true∧headsF ls=0):=hId (fun e=>by
  rw [← HDD.out]at e
  have:=reqF_right e
  exact⟨this.tok,this.host,this.heads⟩)
 clear HDD
 have q:=HCK.out w1 HM.out
 clear HCK
 generalize reqF D=F at *
 have e0:=HX.out.cell 0
 have e1:=HX.out.cell 1
 have e2:=HX.out.cell 2
 have e3:=HX.out.cell 3
 have e4:=HX.out.cell 4
 have e5:=HX.out.cell 5
 have e6:=HX.out.cell 6
 have e7:=HX.out.cell 7
 have el:=HX.out.lt
 simp only [lqt,lqz,lqs]at e0 e1 e2 e3 e4 e5 e6 e7
 go_wp2_with fail
 refine q.mono ?_
 clear q
 rintro e w2 ⟨rfl,m2⟩
 clear e0 e1 e2 e3 e4 e5 e6 e7 el
 have HX1:=hId (HX.out.new2 m2)
 have HR1:=hId (HR.out.new2 m2)
 have HM1:=hId (HM.out.trans m2)
 clear HX HR HM m2
 have HX:=HX1
 have HR:=HR1
 have HM:=HM1
 clear HX1 HR1 HM1
 have e0:=HX.out.cell 0
 have e1:=HX.out.cell 1
 have e2:=HX.out.cell 2
 have e3:=HX.out.cell 3
 have e4:=HX.out.cell 4
 have e5:=HX.out.cell 5
 have e6:=HX.out.cell 6
 have e7:=HX.out.cell 7
 have el:=HX.out.lt
 simp only [lqt,lqz,lqs]at e0 e1 e2 e3 e4 e5 e6 e7
 by_cases g0:F≠0
 ·have g0b:(F != 0)=true:=by simpa using g0
  have HQ:=hId (HN0.out.trans (if_pos g0))
  clear HN0 g0 HRT
  have HFIN:Hid (∀ W',Mod (fun k=>k=rb) w2 W'→normOf D=(F,zReqL)→RNrm (normOf D) w (.returned (.tuple #[reqV zReqL none 0 0,.int .i64 F])) W'):=hId (fun W' hm hq=>RNrm.fault hq (HM.out.step hm (fun i hi e=>by have h1:=HXB.out;have h2:=HRX.out;omega)))
  clear HM
  have hcR:=HR.out.cell
  have hfR:=HR.out.frozen
  have rlt:=HR.out.lt
  have HMF:=hId (fun (v0 v1 v2 v3 v4 v5 v6 v7:Value)=>(Mod.set8 rb w2 v0 v1 v2 v3 v4 v5 v6 v7))
  clear HR HX
  go_wp2_with fail
  refine bodyPost_ret (v:=(.tuple #[reqV zReqL none 0 0,.int .i64 F])) (by simp [results,Tryz.results47,go_sem,hcR,hfR,rlt,reqV,zReqL]) rfl ?_
  refine HFIN.out _ (HMF.out _ _ _ _ _ _ _ _) ?_
  exact HQ.out
 have g0b:(F != 0)=false:=by simpa using g0
 obtain⟨htok,hhost,hheads⟩:=HRT.out (by simpa using g0)
 have HN1:=hId (HN0.out.trans (if_neg g0))
 have HTK:=hId htok
 have HHD:=hId (heads_tok hheads)
 clear HN0 g0 HRT htok hheads
 have hoz:=Blk.new w2 33 #[.int .i64 at_,.string me,.string ho,.string pa,.string qu,.string fr,.slice A n c,.string bo]
 have hom:New w2 (w2.alloc (.cells #[.int .i64 at_,.string me,.string ho,.string pa,.string qu,.string fr,.slice A n c,.string bo] 33)):=(Mod.refl _ _).alloc _
 go_upto_region 5 with(fail)
 clear e0 e1 e2 e3 e4 e5 e6 e7 el
 have HOX:Hid (rb<w2.heap.size):=hId HR.out.lt
 have HX1:=hId (HX.out.new2 hom)
 have HR1:=hId (HR.out.new2 hom)
 have HM1:=hId (HM.out.trans hom)
 have HO1:=hId hoz
 clear HX HR HM hoz hom
 generalize w2.alloc (.cells #[.int .i64 at_,.string me,.string ho,.string pa,.string qu,.string fr,.slice A n c,.string bo] 33)=w3 at *
 generalize w2.heap.size=ob at *
 have HX:=HX1
 have HR:=HR1
 have HO:=HO1
 have HM:=HM1
 clear HX1 HR1 HO1 HM1
 have hxo:xb≠ob:=by have:=HRX.out;have:=HOX.out;omega
 have hro:rb≠ob:=by have:=HOX.out;omega
 have e0:=HX.out.cell 0
 have e1:=HX.out.cell 1
 have e2:=HX.out.cell 2
 have e3:=HX.out.cell 3
 have e4:=HX.out.cell 4
 have e5:=HX.out.cell 5
 have e6:=HX.out.cell 6
 have e7:=HX.out.cell 7
 have el:=HX.out.lt
 simp only [lqt,lqz,lqs]at e0 e1 e2 e3 e4 e5 e6 e7
 have o0:=HO.out.cell 0
 have o1:=HO.out.cell 1
 have o2:=HO.out.cell 2
 have o3:=HO.out.cell 3
 have o4:=HO.out.cell 4
 have o5:=HO.out.cell 5
 have o6:=HO.out.cell 6
 have o7:=HO.out.cell 7
 have ol:=HO.out.lt
 have hfo:=HO.out.frozen
 simp only [lqt,lqz,lqs]at o0 o1 o2 o3 o4 o5 o6 o7
 have q:=ref_hostOf ho w3 (by omega) (HHX.out.new HM.out) (HHT.out.new HM.out)
 unfold RHost at q
 simp only [hhost,if_true]at q
 clear hhost
 generalize (⟨(hostN ho.data.toList).toArray⟩:ByteArray)=HN at *
 go_wp2_with fail
 refine q.mono ?_
 clear q
 rintro e w4 ⟨rfl,m4⟩
 clear e0 e1 e2 e3 e4 e5 e6 e7 el
 clear o0 o1 o2 o3 o4 o5 o6 o7 ol hfo
 have HX1:=hId (HX.out.new2 m4)
 have HR1:=hId (HR.out.new2 m4)
 have HO1:=hId (HO.out.new2 m4)
 have HM1:=hId (HM.out.trans m4)
 clear HX HR HO HM m4
 have HX:=HX1
 have HR:=HR1
 have HO:=HO1
 have HM:=HM1
 clear HX1 HR1 HO1 HM1
 have e0:=HX.out.cell 0
 have e1:=HX.out.cell 1
 have e2:=HX.out.cell 2
 have e3:=HX.out.cell 3
 have e4:=HX.out.cell 4
 have e5:=HX.out.cell 5
 have e6:=HX.out.cell 6
 have e7:=HX.out.cell 7
 have el:=HX.out.lt
 simp only [lqt,lqz,lqs]at e0 e1 e2 e3 e4 e5 e6 e7
 have o0:=HO.out.cell 0
 have o1:=HO.out.cell 1
 have o2:=HO.out.cell 2
 have o3:=HO.out.cell 3
 have o4:=HO.out.cell 4
 have o5:=HO.out.cell 5
 have o6:=HO.out.cell 6
 have o7:=HO.out.cell 7
 have ol:=HO.out.lt
 have hfo:=HO.out.frozen
 simp only [lqt,lqz,lqs]at o0 o1 o2 o3 o4 o5 o6 o7
 go_upto_region 7 with(fail)
 clear e0 e1 e2 e3 e4 e5 e6 e7 el
 clear o0 o1 o2 o3 o4 o5 o6 o7 ol hfo
 have HO1:=hId (HO.out.set 2 (.string HN))
 simp only [Array.setIfInBounds,List.size_toArray,List.length_cons,List.length_nil,Nat.reduceAdd,Nat.reduceLT,↓reduceDIte,List.set_toArray,lsz,lss]at HO1
 have HMS:Hid (Mod (fun k=>k=ob) w4 (World.setCell w4 ⟨ob,2,none⟩ (.string HN))):=hId (Mod.setCell (S:=fun k=>k=ob) (p:=⟨ob,2,none⟩) (Mod.refl _ _) (.inl rfl) _)
 have HX1:=hId (HX.out.mod HMS.out (fun e=>by have:=HRX.out;have:=HOX.out;omega))
 have HR1:=hId (HR.out.mod HMS.out (fun e=>by have:=HRX.out;have:=HOX.out;omega))
 have HM1:=hId (HM.out.step HMS.out (fun i hi e=>by have:=HXB.out;have:=HRX.out;have:=HOX.out;omega))
 clear HX HR HO HM HMS
 generalize World.setCell w4 ⟨ob,2,none⟩ (.string HN)=w5 at *
 have HX:=HX1
 have HR:=HR1
 have HO:=HO1
 have HM:=HM1
 clear HX1 HR1 HO1 HM1
 have e0:=HX.out.cell 0
 have e1:=HX.out.cell 1
 have e2:=HX.out.cell 2
 have e3:=HX.out.cell 3
 have e4:=HX.out.cell 4
 have e5:=HX.out.cell 5
 have e6:=HX.out.cell 6
 have e7:=HX.out.cell 7
 have el:=HX.out.lt
 simp only [lqt,lqz,lqs]at e0 e1 e2 e3 e4 e5 e6 e7
 have o0:=HO.out.cell 0
 have o1:=HO.out.cell 1
 have o2:=HO.out.cell 2
 have o3:=HO.out.cell 3
 have o4:=HO.out.cell 4
 have o5:=HO.out.cell 5
 have o6:=HO.out.cell 6
 have o7:=HO.out.cell 7
 have ol:=HO.out.lt
 have hfo:=HO.out.frozen
 simp only [lqt,lqz,lqs]at o0 o1 o2 o3 o4 o5 o6 o7
 have q:=ref2_pathOf pa w5 (by omega) (HHX.out.new HM.out) (HHE.out.new HM.out)
 generalize pathN pa=P at *
 obtain⟨pe,pt⟩:=P
 unfold RTxt at q
 simp only at q HN1
 generalize (⟨pt.toArray⟩:ByteArray)=PT at *
 go_wp2_with fail
 refine q.mono ?_
 clear q
 rintro e w6 ⟨rfl,m6⟩
 clear e0 e1 e2 e3 e4 e5 e6 e7 el
 clear o0 o1 o2 o3 o4 o5 o6 o7 ol hfo
 have HX1:=hId (HX.out.new2 m6)
 have HR1:=hId (HR.out.new2 m6)
 have HO1:=hId (HO.out.new2 m6)
 have HM1:=hId (HM.out.trans m6)
 clear HX HR HO HM m6
 have HX:=HX1
 have HR:=HR1
 have HO:=HO1
 have HM:=HM1
 clear HX1 HR1 HO1 HM1
 have e0:=HX.out.cell 0
 have e1:=HX.out.cell 1
 have e2:=HX.out.cell 2
 have e3:=HX.out.cell 3
 have e4:=HX.out.cell 4
 have e5:=HX.out.cell 5
 have e6:=HX.out.cell 6
 have e7:=HX.out.cell 7
 have el:=HX.out.lt
 simp only [lqt,lqz,lqs]at e0 e1 e2 e3 e4 e5 e6 e7
 have o0:=HO.out.cell 0
 have o1:=HO.out.cell 1
 have o2:=HO.out.cell 2
 have o3:=HO.out.cell 3
 have o4:=HO.out.cell 4
 have o5:=HO.out.cell 5
 have o6:=HO.out.cell 6
 have o7:=HO.out.cell 7
 have ol:=HO.out.lt
 have hfo:=HO.out.frozen
 simp only [lqt,lqz,lqs]at o0 o1 o2 o3 o4 o5 o6 o7
 go_upto_region 8 with(fail)
 clear e0 e1 e2 e3 e4 e5 e6 e7 el
 clear o0 o1 o2 o3 o4 o5 o6 o7 ol hfo
 have HO1:=hId (HO.out.set 3 (.string PT))
 simp only [Array.setIfInBounds,List.size_toArray,List.length_cons,List.length_nil,Nat.reduceAdd,Nat.reduceLT,↓reduceDIte,List.set_toArray,lsz,lss]at HO1
 have HMS:Hid (Mod (fun k=>k=ob) w6 (World.setCell w6 ⟨ob,3,none⟩ (.string PT))):=hId (Mod.setCell (S:=fun k=>k=ob) (p:=⟨ob,3,none⟩) (Mod.refl _ _) (.inl rfl) _)
 have HX1:=hId (HX.out.mod HMS.out (fun e=>by have:=HRX.out;have:=HOX.out;omega))
 have HR1:=hId (HR.out.mod HMS.out (fun e=>by have:=HRX.out;have:=HOX.out;omega))
 have HM1:=hId (HM.out.step HMS.out (fun i hi e=>by have:=HXB.out;have:=HRX.out;have:=HOX.out;omega))
 clear HX HR HO HM HMS
 generalize World.setCell w6 ⟨ob,3,none⟩ (.string PT)=w7 at *
 have HX:=HX1
 have HR:=HR1
 have HO:=HO1
 have HM:=HM1
 clear HX1 HR1 HO1 HM1
 have e0:=HX.out.cell 0
 have e1:=HX.out.cell 1
 have e2:=HX.out.cell 2
 have e3:=HX.out.cell 3
 have e4:=HX.out.cell 4
 have e5:=HX.out.cell 5
 have e6:=HX.out.cell 6
 have e7:=HX.out.cell 7
 have el:=HX.out.lt
 simp only [lqt,lqz,lqs]at e0 e1 e2 e3 e4 e5 e6 e7
 have o0:=HO.out.cell 0
 have o1:=HO.out.cell 1
 have o2:=HO.out.cell 2
 have o3:=HO.out.cell 3
 have o4:=HO.out.cell 4
 have o5:=HO.out.cell 5
 have o6:=HO.out.cell 6
 have o7:=HO.out.cell 7
 have ol:=HO.out.lt
 have hfo:=HO.out.frozen
 simp only [lqt,lqz,lqs]at o0 o1 o2 o3 o4 o5 o6 o7
 by_cases g1:pe≠0
 ·have g1b:(pe != 0)=true:=by simpa using g1
  have HQ:=hId (HN1.out.trans (if_pos g1))
  clear HN1 g1
  have HFIN:Hid (∀ W',Mod (fun k=>k=rb) w7 W'→normOf D=(pe,zReqL)→RNrm (normOf D) w (.returned (.tuple #[reqV zReqL none 0 0,.int .i64 pe])) W'):=hId (fun W' hm hq=>RNrm.fault hq (HM.out.step hm (fun i hi e=>by have h1:=HXB.out;have h2:=HRX.out;omega)))
  clear HM
  have hcR:=HR.out.cell
  have hfR:=HR.out.frozen
  have rlt:=HR.out.lt
  have HMF:=hId (fun (v0 v1 v2 v3 v4 v5 v6 v7:Value)=>(Mod.set8 rb w7 v0 v1 v2 v3 v4 v5 v6 v7))
  clear HR HX
  go_wp2_with fail
  refine bodyPost_ret (v:=(.tuple #[reqV zReqL none 0 0,.int .i64 pe])) (by simp [results,Tryz.results47,go_sem,hcR,hfR,rlt,reqV,zReqL]) rfl ?_
  refine HFIN.out _ (HMF.out _ _ _ _ _ _ _ _) ?_
  exact HQ.out
 have g1b:(pe != 0)=false:=by simpa using g1
 have HN2:=hId (HN1.out.trans (if_neg g1))
 clear HN1 g1
 have q:=ref_queryOf qu w7 (by omega) (HHX.out.new HM.out) (HHE.out.new HM.out)
 have HQS:=hId (queryOf_size qu)
 generalize queryOf qu=Q at *
 obtain⟨qe,ql⟩:=Q
 unfold RQry at q
 simp only at q HN2 HQS HFEW
 go_wp2_with fail
 refine q.mono ?_
 clear q
 rintro e w8 ⟨Aq,nq,cq,rfl,own8,m8⟩
 have HO8:=hId own8
 have HOF:Hid (∀ g',blkOf Aq=some g'→w7.heap.size≤g'):=hId (fun g' e=>HO8.out.farS g' e)
 have HB5:Hid (ob<w7.heap.size):=hId HO.out.lt
 generalize w7.heap.size=B5 at *
 clear e0 e1 e2 e3 e4 e5 e6 e7 el
 clear o0 o1 o2 o3 o4 o5 o6 o7 ol hfo
 have HX1:=hId (HX.out.new2 m8)
 have HR1:=hId (HR.out.new2 m8)
 have HO1:=hId (HO.out.new2 m8)
 have HM1:=hId (HM.out.trans m8)
 clear HX HR HO HM m8
 have HX:=HX1
 have HR:=HR1
 have HO:=HO1
 have HM:=HM1
 clear HX1 HR1 HO1 HM1
 have e0:=HX.out.cell 0
 have e1:=HX.out.cell 1
 have e2:=HX.out.cell 2
 have e3:=HX.out.cell 3
 have e4:=HX.out.cell 4
 have e5:=HX.out.cell 5
 have e6:=HX.out.cell 6
 have e7:=HX.out.cell 7
 have el:=HX.out.lt
 simp only [lqt,lqz,lqs]at e0 e1 e2 e3 e4 e5 e6 e7
 have o0:=HO.out.cell 0
 have o1:=HO.out.cell 1
 have o2:=HO.out.cell 2
 have o3:=HO.out.cell 3
 have o4:=HO.out.cell 4
 have o5:=HO.out.cell 5
 have o6:=HO.out.cell 6
 have o7:=HO.out.cell 7
 have ol:=HO.out.lt
 have hfo:=HO.out.frozen
 simp only [lqt,lqz,lqs]at o0 o1 o2 o3 o4 o5 o6 o7
 clear own8
 by_cases g2:qe≠0
 ·have g2b:(qe != 0)=true:=by simpa using g2
  have HQ:=hId (HN2.out.trans (if_pos g2))
  clear HN2 g2
  have HFIN:Hid (∀ W',Mod (fun k=>k=rb) w8 W'→normOf D=(qe,zReqL)→RNrm (normOf D) w (.returned (.tuple #[reqV zReqL none 0 0,.int .i64 qe])) W'):=hId (fun W' hm hq=>RNrm.fault hq (HM.out.step hm (fun i hi e=>by have h1:=HXB.out;have h2:=HRX.out;omega)))
  clear HM
  have hcR:=HR.out.cell
  have hfR:=HR.out.frozen
  have rlt:=HR.out.lt
  have HMF:=hId (fun (v0 v1 v2 v3 v4 v5 v6 v7:Value)=>(Mod.set8 rb w8 v0 v1 v2 v3 v4 v5 v6 v7))
  clear HR HX
  go_wp2_with fail
  refine bodyPost_ret (v:=(.tuple #[reqV zReqL none 0 0,.int .i64 qe])) (by simp [results,Tryz.results47,go_sem,hcR,hfR,rlt,reqV,zReqL]) rfl ?_
  refine HFIN.out _ (HMF.out _ _ _ _ _ _ _ _) ?_
  exact HQ.out
 have g2b:(qe != 0)=false:=by simpa using g2
 have HN3:=hId (HN2.out.trans (if_neg g2))
 clear HN2 g2
 have hq100:=HFEW.out
 have hq5:ql.length=nq:=HO8.out.1
 have q:=deleteFunc_q 112 enters_nof1 w8 B5 Aq nq cq ql emptyP HO8.out (fun m hm wr _=>nof_empty m wr (by have:=HQS.out.2 m hm;omega)) (by omega)
 unfold RDelQ at q
 go_wp2_with fail
 refine q.mono ?_
 clear q
 rintro e w9 ⟨rfl,own9,m9⟩
 have HO9:=hId own9
 clear e0 e1 e2 e3 e4 e5 e6 e7 el
 clear o0 o1 o2 o3 o4 o5 o6 o7 ol hfo
 have HX1:=hId (HX.out.mod m9 (fun e=>by have:=HOF.out _ e;have:=HB5.out;have:=HRX.out;have:=HOX.out;omega))
 have HR1:=hId (HR.out.mod m9 (fun e=>by have:=HOF.out _ e;have:=HB5.out;have:=HRX.out;have:=HOX.out;omega))
 have HO1:=hId (HO.out.mod m9 (fun e=>by have:=HOF.out _ e;have:=HB5.out;have:=HRX.out;have:=HOX.out;omega))
 have HM1:=hId (HM.out.step m9 (fun i hi e=>by have:=HOF.out _ e;have:=HB5.out;have:=HXB.out;have:=HRX.out;have:=HOX.out;omega))
 clear HX HR HO HM m9
 have HX:=HX1
 have HR:=HR1
 have HO:=HO1
 have HM:=HM1
 clear HX1 HR1 HO1 HM1
 have e0:=HX.out.cell 0
 have e1:=HX.out.cell 1
 have e2:=HX.out.cell 2
 have e3:=HX.out.cell 3
 have e4:=HX.out.cell 4
 have e5:=HX.out.cell 5
 have e6:=HX.out.cell 6
 have e7:=HX.out.cell 7
 have el:=HX.out.lt
 simp only [lqt,lqz,lqs]at e0 e1 e2 e3 e4 e5 e6 e7
 have o0:=HO.out.cell 0
 have o1:=HO.out.cell 1
 have o2:=HO.out.cell 2
 have o3:=HO.out.cell 3
 have o4:=HO.out.cell 4
 have o5:=HO.out.cell 5
 have o6:=HO.out.cell 6
 have o7:=HO.out.cell 7
 have ol:=HO.out.lt
 have hfo:=HO.out.frozen
 simp only [lqt,lqz,lqs]at o0 o1 o2 o3 o4 o5 o6 o7
 clear own9 HO8
 have hsl:(ql.filter fun m=>!emptyP m).length≤19:=by have:=List.length_filter_le (fun m=>!emptyP m) ql;omega
 have hso:(ql.filter fun m=>!emptyP m).mergeSort leQ=sortQ ql:=rfl
 have HSM:=hId (fun (p:PairD) (hp:p∈sortQ ql)=>HQS.out.2 p (sortQ_mem hp))
 have q:=stableFunc_q w9 B5 Aq (ql.filter fun m=>!emptyP m).length cq (ql.filter fun m=>!emptyP m) HO9.out (by omega)
 unfold RSrtQ at q
 rw [hso]at q
 generalize (ql.filter fun m=>!emptyP m).length=ns at *
 clear hso HQS hq100 hq5 HFEW
 go_wp2_with fail
 refine q.mono ?_
 clear q
 rintro e wa ⟨rfl,owna,ma⟩
 have HOa:=hId owna
 clear e0 e1 e2 e3 e4 e5 e6 e7 el
 clear o0 o1 o2 o3 o4 o5 o6 o7 ol hfo
 have HX1:=hId (HX.out.mod ma (fun e=>by have:=HOF.out _ e;have:=HB5.out;have:=HRX.out;have:=HOX.out;omega))
 have HR1:=hId (HR.out.mod ma (fun e=>by have:=HOF.out _ e;have:=HB5.out;have:=HRX.out;have:=HOX.out;omega))
 have HO1:=hId (HO.out.mod ma (fun e=>by have:=HOF.out _ e;have:=HB5.out;have:=HRX.out;have:=HOX.out;omega))
 have HM1:=hId (HM.out.step ma (fun i hi e=>by have:=HOF.out _ e;have:=HB5.out;have:=HXB.out;have:=HRX.out;have:=HOX.out;omega))
 clear HX HR HO HM ma
 have HX:=HX1
 have HR:=HR1
 have HO:=HO1
 have HM:=HM1
 clear HX1 HR1 HO1 HM1
 have e0:=HX.out.cell 0
 have e1:=HX.out.cell 1
 have e2:=HX.out.cell 2
 have e3:=HX.out.cell 3
 have e4:=HX.out.cell 4
 have e5:=HX.out.cell 5
 have e6:=HX.out.cell 6
 have e7:=HX.out.cell 7
 have el:=HX.out.lt
 simp only [lqt,lqz,lqs]at e0 e1 e2 e3 e4 e5 e6 e7
 have o0:=HO.out.cell 0
 have o1:=HO.out.cell 1
 have o2:=HO.out.cell 2
 have o3:=HO.out.cell 3
 have o4:=HO.out.cell 4
 have o5:=HO.out.cell 5
 have o6:=HO.out.cell 6
 have o7:=HO.out.cell 7
 have ol:=HO.out.lt
 have hfo:=HO.out.frozen
 simp only [lqt,lqz,lqs]at o0 o1 o2 o3 o4 o5 o6 o7
 clear owna HO9
 have q:=ref2_queryFrom Aq ns cq (sortQ ql) wa HOa.out.sl (by omega) (fun p hp=>by have:=HSM.out p hp;omega)
 clear HSM
 generalize queryT (sortQ ql)=T at *
 obtain⟨te,tt⟩:=T
 unfold RTxt at q
 simp only at q HN3
 generalize (⟨tt.toArray⟩:ByteArray)=TT at *
 go_wp2_with fail
 refine q.mono ?_
 clear q
 rintro e wb ⟨rfl,mb⟩
 clear e0 e1 e2 e3 e4 e5 e6 e7 el
 clear o0 o1 o2 o3 o4 o5 o6 o7 ol hfo
 have HX1:=hId (HX.out.new2 mb)
 have HR1:=hId (HR.out.new2 mb)
 have HO1:=hId (HO.out.new2 mb)
 have HM1:=hId (HM.out.trans mb)
 clear HX HR HO HM mb
 have HX:=HX1
 have HR:=HR1
 have HO:=HO1
 have HM:=HM1
 clear HX1 HR1 HO1 HM1
 have e0:=HX.out.cell 0
 have e1:=HX.out.cell 1
 have e2:=HX.out.cell 2
 have e3:=HX.out.cell 3
 have e4:=HX.out.cell 4
 have e5:=HX.out.cell 5
 have e6:=HX.out.cell 6
 have e7:=HX.out.cell 7
 have el:=HX.out.lt
 simp only [lqt,lqz,lqs]at e0 e1 e2 e3 e4 e5 e6 e7
 have o0:=HO.out.cell 0
 have o1:=HO.out.cell 1
 have o2:=HO.out.cell 2
 have o3:=HO.out.cell 3
 have o4:=HO.out.cell 4
 have o5:=HO.out.cell 5
 have o6:=HO.out.cell 6
 have o7:=HO.out.cell 7
 have ol:=HO.out.lt
 have hfo:=HO.out.frozen
 simp only [lqt,lqz,lqs]at o0 o1 o2 o3 o4 o5 o6 o7
 clear HOa
 go_upto_region 16 with(fail)
 clear e0 e1 e2 e3 e4 e5 e6 e7 el
 clear o0 o1 o2 o3 o4 o5 o6 o7 ol hfo
 have HO1:=hId (HO.out.set 4 (.string TT))
 simp only [Array.setIfInBounds,List.size_toArray,List.length_cons,List.length_nil,Nat.reduceAdd,Nat.reduceLT,↓reduceDIte,List.set_toArray,lsz,lss]at HO1
 have HMS:Hid (Mod (fun k=>k=ob) wb (World.setCell wb ⟨ob,4,none⟩ (.string TT))):=hId (Mod.setCell (S:=fun k=>k=ob) (p:=⟨ob,4,none⟩) (Mod.refl _ _) (.inl rfl) _)
 have HX1:=hId (HX.out.mod HMS.out (fun e=>by have:=HRX.out;have:=HOX.out;omega))
 have HR1:=hId (HR.out.mod HMS.out (fun e=>by have:=HRX.out;have:=HOX.out;omega))
 have HM1:=hId (HM.out.step HMS.out (fun i hi e=>by have:=HXB.out;have:=HRX.out;have:=HOX.out;omega))
 clear HX HR HO HM HMS
 generalize World.setCell wb ⟨ob,4,none⟩ (.string TT)=wc at *
 have HX:=HX1
 have HR:=HR1
 have HO:=HO1
 have HM:=HM1
 clear HX1 HR1 HO1 HM1
 have e0:=HX.out.cell 0
 have e1:=HX.out.cell 1
 have e2:=HX.out.cell 2
 have e3:=HX.out.cell 3
 have e4:=HX.out.cell 4
 have e5:=HX.out.cell 5
 have e6:=HX.out.cell 6
 have e7:=HX.out.cell 7
 have el:=HX.out.lt
 simp only [lqt,lqz,lqs]at e0 e1 e2 e3 e4 e5 e6 e7
 have o0:=HO.out.cell 0
 have o1:=HO.out.cell 1
 have o2:=HO.out.cell 2
 have o3:=HO.out.cell 3
 have o4:=HO.out.cell 4
 have o5:=HO.out.cell 5
 have o6:=HO.out.cell 6
 have o7:=HO.out.cell 7
 have ol:=HO.out.lt
 have hfo:=HO.out.frozen
 simp only [lqt,lqz,lqs]at o0 o1 o2 o3 o4 o5 o6 o7
 by_cases g3:te≠0
 ·have g3b:(te != 0)=true:=by simpa using g3
  have HQ:=hId (HN3.out.trans (if_pos g3))
  clear HN3 g3
  have HFIN:Hid (∀ W',Mod (fun k=>k=rb) wc W'→normOf D=(te,zReqL)→RNrm (normOf D) w (.returned (.tuple #[reqV zReqL none 0 0,.int .i64 te])) W'):=hId (fun W' hm hq=>RNrm.fault hq (HM.out.step hm (fun i hi e=>by have h1:=HXB.out;have h2:=HRX.out;omega)))
  clear HM
  have hcR:=HR.out.cell
  have hfR:=HR.out.frozen
  have rlt:=HR.out.lt
  have HMF:=hId (fun (v0 v1 v2 v3 v4 v5 v6 v7:Value)=>(Mod.set8 rb wc v0 v1 v2 v3 v4 v5 v6 v7))
  clear HR HX
  go_wp2_with fail
  refine bodyPost_ret (v:=(.tuple #[reqV zReqL none 0 0,.int .i64 te])) (by simp [results,Tryz.results47,go_sem,hcR,hfR,rlt,reqV,zReqL]) rfl ?_
  refine HFIN.out _ (HMF.out _ _ _ _ _ _ _ _) ?_
  exact HQ.out
 have g3b:(te != 0)=false:=by simpa using g3
 have HN4:=hId (HN3.out.trans (if_neg g3))
 clear HN3 g3 HOF HB5
 have q:=Tryz.strings_ToUpper_ascii me wc (by omega) (tok_ascii_all HTK.out)
 have HUP:Hid ((⟨(Lib.toUpperA me.data.toList).toArray⟩:ByteArray)=upS me):=hId rfl
 rw [HUP.out]at q
 generalize upS me=UM at *
 clear HUP HTK
 go_wp2_with fail
 refine q.mono ?_
 clear q
 rintro e wd ⟨rfl,mbd⟩
 have md:New wc wd:=Mod.of_below mbd
 clear mbd
 clear e0 e1 e2 e3 e4 e5 e6 e7 el
 clear o0 o1 o2 o3 o4 o5 o6 o7 ol hfo
 have HX1:=hId (HX.out.new2 md)
 have HR1:=hId (HR.out.new2 md)
 have HO1:=hId (HO.out.new2 md)
 have HM1:=hId (HM.out.trans md)
 clear HX HR HO HM md
 have HX:=HX1
 have HR:=HR1
 have HO:=HO1
 have HM:=HM1
 clear HX1 HR1 HO1 HM1
 have e0:=HX.out.cell 0
 have e1:=HX.out.cell 1
 have e2:=HX.out.cell 2
 have e3:=HX.out.cell 3
 have e4:=HX.out.cell 4
 have e5:=HX.out.cell 5
 have e6:=HX.out.cell 6
 have e7:=HX.out.cell 7
 have el:=HX.out.lt
 simp only [lqt,lqz,lqs]at e0 e1 e2 e3 e4 e5 e6 e7
 have o0:=HO.out.cell 0
 have o1:=HO.out.cell 1
 have o2:=HO.out.cell 2
 have o3:=HO.out.cell 3
 have o4:=HO.out.cell 4
 have o5:=HO.out.cell 5
 have o6:=HO.out.cell 6
 have o7:=HO.out.cell 7
 have ol:=HO.out.lt
 have hfo:=HO.out.frozen
 simp only [lqt,lqz,lqs]at o0 o1 o2 o3 o4 o5 o6 o7
 go_upto_region 19 with(fail)
 clear e0 e1 e2 e3 e4 e5 e6 e7 el
 clear o0 o1 o2 o3 o4 o5 o6 o7 ol hfo
 have HO1:=hId (HO.out.set 1 (.string UM))
 simp only [Array.setIfInBounds,List.size_toArray,List.length_cons,List.length_nil,Nat.reduceAdd,Nat.reduceLT,↓reduceDIte,List.set_toArray,lsz,lss]at HO1
 have HMS:Hid (Mod (fun k=>k=ob) wd (World.setCell wd ⟨ob,1,none⟩ (.string UM))):=hId (Mod.setCell (S:=fun k=>k=ob) (p:=⟨ob,1,none⟩) (Mod.refl _ _) (.inl rfl) _)
 have HX1:=hId (HX.out.mod HMS.out (fun e=>by have:=HRX.out;have:=HOX.out;omega))
 have HR1:=hId (HR.out.mod HMS.out (fun e=>by have:=HRX.out;have:=HOX.out;omega))
 have HM1:=hId (HM.out.step HMS.out (fun i hi e=>by have:=HXB.out;have:=HRX.out;have:=HOX.out;omega))
 clear HX HR HO HM HMS
 generalize World.setCell wd ⟨ob,1,none⟩ (.string UM)=we at *
 have HX:=HX1
 have HR:=HR1
 have HO:=HO1
 have HM:=HM1
 clear HX1 HR1 HO1 HM1
 have e0:=HX.out.cell 0
 have e1:=HX.out.cell 1
 have e2:=HX.out.cell 2
 have e3:=HX.out.cell 3
 have e4:=HX.out.cell 4
 have e5:=HX.out.cell 5
 have e6:=HX.out.cell 6
 have e7:=HX.out.cell 7
 have el:=HX.out.lt
 simp only [lqt,lqz,lqs]at e0 e1 e2 e3 e4 e5 e6 e7
 have o0:=HO.out.cell 0
 have o1:=HO.out.cell 1
 have o2:=HO.out.cell 2
 have o3:=HO.out.cell 3
 have o4:=HO.out.cell 4
 have o5:=HO.out.cell 5
 have o6:=HO.out.cell 6
 have o7:=HO.out.cell 7
 have ol:=HO.out.lt
 have hfo:=HO.out.frozen
 simp only [lqt,lqz,lqs]at o0 o1 o2 o3 o4 o5 o6 o7
 go_upto_region 20 with(fail)
 clear e0 e1 e2 e3 e4 e5 e6 e7 el
 clear o0 o1 o2 o3 o4 o5 o6 o7 ol hfo
 have HO1:=hId (HO.out.set 6 (.slice none 0 0))
 simp only [Array.setIfInBounds,List.size_toArray,List.length_cons,List.length_nil,Nat.reduceAdd,Nat.reduceLT,↓reduceDIte,List.set_toArray,lsz,lss]at HO1
 have HMS:Hid (Mod (fun k=>k=ob) we (World.setCell we ⟨ob,6,none⟩ (.slice none 0 0))):=hId (Mod.setCell (S:=fun k=>k=ob) (p:=⟨ob,6,none⟩) (Mod.refl _ _) (.inl rfl) _)
 have HX1:=hId (HX.out.mod HMS.out (fun e=>by have:=HRX.out;have:=HOX.out;omega))
 have HR1:=hId (HR.out.mod HMS.out (fun e=>by have:=HRX.out;have:=HOX.out;omega))
 have HM1:=hId (HM.out.step HMS.out (fun i hi e=>by have:=HXB.out;have:=HRX.out;have:=HOX.out;omega))
 clear HX HR HO HM HMS
 generalize World.setCell we ⟨ob,6,none⟩ (.slice none 0 0)=wf at *
 have HX:=HX1
 have HR:=HR1
 have HO:=HO1
 have HM:=HM1
 clear HX1 HR1 HO1 HM1
 have HBF:Hid (ob<wf.heap.size):=hId HO.out.lt
 obtain⟨BF,hBF⟩:∃ B,wf.heap.size=B:=⟨_,rfl⟩
 rw [hBF]at HBF
 have HBFW:Hid (wf.heap.size=BF):=hId hBF
 clear hBF
 have HLL:=hId HHS.out.1
 have HNF:=hId HM.out
 have e0:=HX.out.cell 0
 have e1:=HX.out.cell 1
 have e2:=HX.out.cell 2
 have e3:=HX.out.cell 3
 have e4:=HX.out.cell 4
 have e5:=HX.out.cell 5
 have e6:=HX.out.cell 6
 have e7:=HX.out.cell 7
 have el:=HX.out.lt
 simp only [lqt,lqz,lqs]at e0 e1 e2 e3 e4 e5 e6 e7
 have o0:=HO.out.cell 0
 have o1:=HO.out.cell 1
 have o2:=HO.out.cell 2
 have o3:=HO.out.cell 3
 have o4:=HO.out.cell 4
 have o5:=HO.out.cell 5
 have o6:=HO.out.cell 6
 have o7:=HO.out.cell 7
 have ol:=HO.out.lt
 have hfo:=HO.out.frozen
 simp only [lqt,lqz,lqs]at o0 o1 o2 o3 o4 o5 o6 o7
 go_wp2_with fail
 clear e0 e1 e2 e3 e4 e5 e6 e7 el
 clear o0 o1 o2 o3 o4 o5 o6 o7 ol hfo
 go_loopw [67] (fun i wr=>∃(k c':Nat) (A':Option Addr),k≤n∧i= .int .i64 k∧Hid (Own wr BF 54 2 pairEnc A' k c' (lowH (ls.take k)))∧Hid (Blk wr xb 33 #[.int .i64 at_,.string me,.string ho,.string pa,.string qu,.string fr,.slice A n c,.string bo])∧Hid (Blk wr rb 33 zReq)∧Hid (Blk wr ob 33 #[.int .i64 at_,.string UM,.string HN,.string PT,.string TT,.string fr,.slice A' k c',.string bo])∧Hid (New w wr)∧Hid (BF≤wr.heap.size)) (fun i _=>n -(intOf i).toNat)
 case atStart=>exact⟨0,0,none,Nat.zero_le _,rfl,hId Own.nil,HX,HR,HO,HM,hId (by have:=HBFW.out;omega)⟩
 case round=>
  clear HX HR HM HO HNF HBFW
  rename World=>wr
  obtain⟨k,c',A',hk,rfl,HW,HX,HR,HO,HM,HBZ⟩:=hrel
  by_cases hlt:k<n
  ·have hkl:k<ls.length:=by have:=HLL.out;omega
   obtain⟨g2,o2,hA,htb,hc0⟩:=(HHS.out.new HM.out).2 (by omega)
   subst hA
   have a0:=hc0 k hkl 0 (by omega)
   have a1:=hc0 k hkl 1 (by omega)
   have hgl:=htb.lt
   have HTL:=hId (HHD.out ls[k] (List.getElem_mem hkl))
   have HSZ:=hId (HZ8.out ls[k] (List.getElem_mem hkl))
   have HLT:Hid (lowH (ls.take (k+1))=lowH (ls.take k)++ [lowP ls[k]]):=hId (by rw [lowH_eq,lowH_eq,List.take_succ_eq_append_getElem hkl,List.map_append];rfl)
   have HLO:Hid (lowP ls[k]=(loS ls[k].1,ls[k].2)):=hId rfl
   have HLB:Hid ((⟨(Lib.toLowerA ls[k].1.data.toList).toArray⟩:ByteArray)=loS ls[k].1):=hId rfl
   simp only [pairEnc,Nat.add_zero,Nat.zero_add]at a0 a1
   clear htb hc0
   generalize ls[k]=x at *
   obtain⟨xn,xv⟩:=x
   simp only at a0 a1 HTL HSZ HLO HLB
   rw [HLO.out]at HLT
   have q:=fun W=>Tryz.strings_ToLower_ascii xn W (by have:=HSZ.out.1;omega) (tok_ascii_all HTL.out)
   rw [HLB.out]at q
   generalize loS xn=LO at *
   clear HTL HLO HLB
   have hb2:(0:Int)≤k:=by omega
   have hb3:(k:Int)<n:=by omega
   have bp:=Blk.new wr 54 #[.string xn,.string xv]
   have mp:New wr (wr.alloc (.cells #[.string xn,.string xv] 54)):=(Mod.refl _ _).alloc _
   go_upto_region 23 with(fail)
   have HW1:=hId (HW.out.new mp)
   have HX1:=hId (HX.out.new2 mp)
   have HR1:=hId (HR.out.new2 mp)
   have HO1:=hId (HO.out.new2 mp)
   have HM1:=hId (HM.out.trans mp)
   have HBZ1:=hId (Nat.le_trans HBZ.out mp.size)
   have HPB:=hId bp
   clear HW HX HR HO HM bp mp a0 a1 hgl HBZ
   generalize wr.alloc (.cells #[.string xn,.string xv] 54)=w1 at *
   generalize wr.heap.size=pb at *
   have HSC:Hid (∀ W,New w1 W→(W.cell? ⟨ob,6,none⟩=some (.slice A' k c')∧ob<W.heap.size∧W.cell? ⟨pb,0,none⟩=some (.string xn)∧W.cell? ⟨pb,1,none⟩=some (.string xv)∧pb<W.heap.size)):=hId (fun W hW=>by
    have h1:=HO1.out.mod hW (fun e=>e)
    have h2:=HPB.out.mod hW (fun e=>e)
    exact⟨(h1.cell 6).trans rfl,h1.lt,(h2.cell 0).trans rfl,(h2.cell 1).trans rfl,h2.lt⟩)
   have hn1:New w1 w1.drew:=(Mod.refl _ _).drew
   refine wp_region_held_ord (fun W=>W.cell? ⟨ob,6,none⟩=some (.slice A' k c')∧ob<W.heap.size∧W.cell? ⟨pb,0,none⟩=some (.string xn)∧W.cell? ⟨pb,1,none⟩=some (.string xv)∧pb<W.heap.size) [4,8] [0,1,2,3,5,6,4,7,8] (by kernel_rfl) (by kernel_rfl) (fun _ _ d _ _ h=>by cases d <;> exact h) ?_ (fun hHeld=>?_)
   ·exact HSC.out _ hn1
   simp only [List.length_cons,List.length_nil,List.drop_succ_cons,List.drop_zero]
   refine heldO_take ?_ (by rfl) (by rfl) (by rfl) (fun w hSw=>?_) ?_
   rotate_left
   ·(try dsimp only at hSw);go_simp;any_goals (with_reducible rfl)
   simp only [Act.put,lgt,lgz,lgs,lzt,lsz,lss]
   refine heldO_take ?_ (by rfl) (by rfl) (by rfl) (fun w hSw=>?_) ?_
   rotate_left
   ·(try dsimp only at hSw);go_simp;any_goals (with_reducible rfl)
   simp only [Act.put,lgt,lgz,lgs,lzt,lsz,lss]
   refine heldO_take ?_ (by rfl) (by rfl) (by rfl) (fun w hSw=>?_) ?_
   rotate_left
   ·(try dsimp only at hSw);go_simp;any_goals (with_reducible rfl)
   simp only [Act.put,lgt,lgz,lgs,lzt,lsz,lss]
   refine heldO_take ?_ (by rfl) (by rfl) (by rfl) (fun w hSw=>?_) ?_
   rotate_left
   ·(try dsimp only at hSw);go_simp;any_goals (with_reducible rfl)
   simp only [Act.put,lgt,lgz,lgs,lzt,lsz,lss]
   refine heldO_take ?_ (by rfl) (by rfl) (by rfl) (fun w hSw=>?_) ?_
   rotate_left
   ·(try dsimp only at hSw);go_simp;any_goals (with_reducible rfl)
   simp only [Act.put,lgt,lgz,lgs,lzt,lsz,lss]
   refine heldO_take ?_ (by rfl) (by rfl) (by rfl) (fun w hSw=>?_) ?_
   rotate_left
   ·(try dsimp only at hSw);go_simp;any_goals (with_reducible rfl)
   simp only [Act.put,lgt,lgz,lgs,lzt,lsz,lss]
   refine heldO_step (by rfl) (by rfl) (by rfl) (fun K hK=>?_)
   go_simp
   refine(q _).mono ?_
   clear q
   rintro e w5 ⟨rfl,mb⟩
   have m15:=hn1.trans (Mod.of_below mb)
   go_wp2_with fail
   refine hK.out _ _ (HSC.out _ m15) (fun hHeld=>?_)
   clear hK K mb
   try simp only [Act.put,lzt,lsz,lss]
   refine heldO_take ?_ (by rfl) (by rfl) (by rfl) (fun w hSw=>?_) ?_
   rotate_left
   ·(try dsimp only at hSw);go_simp;any_goals (with_reducible rfl)
   simp only [Act.put,lgt,lgz,lgs,lzt,lsz,lss]
   have hb5:=Blk.new w5 54 #[.string LO,.string xv]
   have n6:New w5 (w5.alloc (.cells #[.string LO,.string xv] 54)):=(Mod.refl _ _).alloc _
   refine heldO_step (by rfl) (by rfl) (by rfl) (fun K hK=>?_)
   go_simp
   refine hK.out _ _ (HSC.out _ (m15.trans n6)) (fun hHeld=>?_)
   clear hK K
   try simp only [Act.put,lzt,lsz,lss]
   refine heldO_nil ?_
   have m16:=m15.trans n6
   have HW6:=hId (HW1.out.new m16)
   have HX6:=hId (HX1.out.new2 m16)
   have HR6:=hId (HR1.out.new2 m16)
   have HO6:=hId (HO1.out.new2 m16)
   have HM6:=hId (HM1.out.trans m16)
   have HWF:Hid (∀ g',blkOf A'=some g'→BF≤g'):=hId (fun g' e=>HW6.out.farP g' e)
   have HBN:=hId hb5
   have hBq:BF≤(World.alloc w5 (.cells #[.string LO,.string xv] 54)).heap.size:=by
    have h1:=m16.size
    have h2:=HBZ1.out
    omega
   clear HW1 HX1 HR1 HO1 HM1 HPB HSC m15 m16 n6 hb5 hn1
   go_wp2_with (at_builtin;refine wpList_push rfl _ _ _ rfl 32 Tryz.underlying31 einfo_hdr rfl HW6.out (LO,xv) w5.heap.size rfl HBN.out (fun j hj=>pairEnc_one _ j hj) (by omega) (by omega) hBq ?_;intro g8 cap8 w8 own8 hm8 hat8 hlt8;have HO8:=hId (HO6.out.mod hm8 (fun e=>by have:=HWF.out _ e;have:=HBF.out;omega));have o6:=HO8.out.cell 6;have ol:=HO8.out.lt;have hfo:=HO8.out.frozen;simp only [lqt,lqz,lqs]at o6)
   clear o6 ol hfo
   have HX8:=hId (HX6.out.mod hm8 (fun e=>by have:=HWF.out _ e;have:=HBF.out;have:=HOX.out;have:=HRX.out;omega))
   have HR8:=hId (HR6.out.mod hm8 (fun e=>by have:=HWF.out _ e;have:=HBF.out;have:=HOX.out;omega))
   have HM8:=hId (HM6.out.step hm8 (fun i hi e=>by have:=HWF.out _ e;have:=HBF.out;have:=HOX.out;have:=HRX.out;have:=HXB.out;omega))
   have HG8:Hid (BF≤g8):=hId (own8.farP g8 rfl)
   have HZ8b:Hid (BF≤w8.heap.size):=hId (by have:=HG8.out;omega)
   rw [← HLT.out]at own8
   have HW8:=hId own8
   clear HX6 HR6 HO6 HM6 HW6 own8 hm8 hat8 HBN hBq HLT
   have HO9:=hId (HO8.out.set 6 (.slice (some ⟨g8,0,none⟩) (k+1) cap8))
   simp only [Array.setIfInBounds,List.size_toArray,List.length_cons,List.length_nil,Nat.reduceAdd,Nat.reduceLT,↓reduceDIte,List.set_toArray,lsz,lss]at HO9
   have HMS:Hid (Mod (fun k=>k=ob) w8 (World.setCell w8 ⟨ob,6,none⟩ (.slice (some ⟨g8,0,none⟩) (k+1) cap8))):=hId (Mod.setCell (S:=fun k=>k=ob) (p:=⟨ob,6,none⟩) (Mod.refl _ _) (.inl rfl) _)
   have HX9:=hId (HX8.out.mod HMS.out (fun e=>by have:=HRX.out;have:=HOX.out;omega))
   have HR9:=hId (HR8.out.mod HMS.out (fun e=>by have:=HRX.out;have:=HOX.out;omega))
   have HM9:=hId (HM8.out.step HMS.out (fun i hi e=>by have:=HXB.out;have:=HRX.out;have:=HOX.out;omega))
   have HW9:=hId (HW8.out.mod HMS.out (fun g e e2=>by have:=HW8.out.farP g e;have:=HBF.out;omega))
   have HZ9:Hid (BF≤(World.setCell w8 ⟨ob,6,none⟩ (.slice (some ⟨g8,0,none⟩) (k+1) cap8)).heap.size):=hId (Nat.le_trans HZ8b.out HMS.out.size)
   clear HX8 HR8 HM8 HW8 HO8 HMS HZ8b
   go_roundw
   case rel=>exact⟨k+1,cap8,some ⟨g8,0,none⟩,by omega,by go_num,HW9,HX9,HR9,HO9,HM9,HZ9⟩
   case measure=>simp [intOf];omega
  ·obtain rfl:k=n:=by omega
   have htk:ls.take k=ls:=List.take_of_length_le (by have:=HLL.out;omega)
   rw [htk]at HW
   have HFIN:Hid (∀ W',Mod (fun q=>q=rb) wr W'→RNrm (normOf D) w (.returned (.tuple #[reqV ⟨at_,UM,HN,PT,TT,fr,lowH ls,bo⟩ A' k c',.int .i64 0])) W'):=hId (fun W' hm=>⟨A',k,c',by rw [HN4.out],by
    rw [HN4.out]
    exact(HW.out.mod hm (fun g e e2=>by have:=HW.out.farP g e;have:=HBF.out;have:=HOX.out;omega)).sl,HM.out.step hm (fun i hi e=>by have h1:=HXB.out;have h2:=HRX.out;omega)⟩)
   clear HM HW htk
   have o0:=HO.out.cell 0
   have o1:=HO.out.cell 1
   have o2:=HO.out.cell 2
   have o3:=HO.out.cell 3
   have o4:=HO.out.cell 4
   have o5:=HO.out.cell 5
   have o6:=HO.out.cell 6
   have o7:=HO.out.cell 7
   have ol:=HO.out.lt
   have hfo:=HO.out.frozen
   simp only [lqt,lqz,lqs]at o0 o1 o2 o3 o4 o5 o6 o7
   have hcR:=HR.out.cell
   have hfR:=HR.out.frozen
   have rlt:=HR.out.lt
   have HMF:=hId (fun (v0 v1 v2 v3 v4 v5 v6 v7:Value)=>(Mod.set8 rb wr v0 v1 v2 v3 v4 v5 v6 v7))
   have hor2:ob≠rb:=by have:=HOX.out;omega
   clear HR HX HO
   go_wp2_with fail
   refine bodyPost_ret (v:=.tuple #[reqV ⟨at_,UM,HN,PT,TT,fr,lowH ls,bo⟩ A' k c',.int .i64 0]) (by simp [results,Tryz.results47,go_sem,hcR,hfR,rlt,reqV]) rfl ?_
   exact HFIN.out _ (HMF.out _ _ _ _ _ _ _ _)
end Go.Proofs.YtnlloaimplgjnaaGreatDoor
