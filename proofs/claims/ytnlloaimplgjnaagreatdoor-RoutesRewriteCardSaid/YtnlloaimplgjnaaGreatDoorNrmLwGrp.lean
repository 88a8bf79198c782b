/- Several texts in one. (1) A request in its normal form: the law's (gatelaw1.normal). Conditions: a request of modest size whose query reads as few pairs; the library's variables lie as they should. (2) Two equal requests are found equal (gateref2.SameRequest). Conditions: rows of modest size. (3) The stream's request with its headers, right or near to it (Stream.Request). Conditions: the stream has room. -/
import Derived.Test.YtnlloaimplgjnaaGreatDoorNrmR
import Derived.Test.YtnlloaimplgjnaaGreatDoorPairGrp
import Derived.Test.YtnlloaimplgjnaaGreatDoorNrm0Grp
import Derived.Test.YtnlloaimplgjnaaGreatDoorReq3Grp
namespace Go.Proofs.YtnlloaimplgjnaaGreatDoor
open Go.RowKit
set_option linter.unusedVariables false
set_option linter.unusedSimpArgs false
theorem normOf_bad {D:ReqL} (h:reqF D≠0):normOf D=(reqF D,zReqL):=if_pos h
set_option maxRecDepth 100000 in
set_option maxHeartbeats 1500000 in
theorem law_normal (r:ReqD) (ls:List PairD) (w:World) (h:HSl w r.ha r.hn ls) (hf:r.Fit ls) (hx:MaxLn w) (hT:Pow10 w) (hE:ErrSyn w):
  Calls Tryz.prog 11 #[r.val] w (RNrm (normOf (r.data ls)) w):=by
 have HCK:=hId (fun W (hm:New w W)=>ref_requestFault r ls W (h.new hm) hf (hx.new hm) (hT.new hm))
 have HNO:=hId (fun W (hm:New w W)=>ref2_normalOf r ls W (h.new hm) hf (hx.new hm) (hT.new hm) (hE.new hm))
 have HNB:=hId (fun e=>normOf_bad (D:=r.data ls) e)
 generalize reqF (r.data ls)=F at *
 generalize normOf (r.data ls)=N at *
 obtain⟨at_,me,ho,pa,qu,fr,A,n,c,bo⟩:=r
 simp only [ReqD.val]at HCK HNO ⊢
 clear h hf hx hT hE
 have hb:=Blk.new w 33 #[.int .i64 at_,.string me,.string ho,.string pa,.string qu,.string fr,.slice A n c,.string bo]
 have hm:New w (w.alloc (.cells #[.int .i64 at_,.string me,.string ho,.string pa,.string qu,.string fr,.slice A n c,.string bo] 33)):=(Mod.refl _ _).alloc _
 have hz1:(w.alloc (.cells #[.int .i64 at_,.string me,.string ho,.string pa,.string qu,.string fr,.slice A n c,.string bo] 33)).heap.size=w.heap.size+1:=by simp
 go_enter Tryz.func11,Tryz.ntmps11
 go_upto_region 1 with(fail)
 generalize w.alloc (.cells #[.int .i64 at_,.string me,.string ho,.string pa,.string qu,.string fr,.slice A n c,.string bo] 33)=wA at *
 have hr:=Blk.new wA 33 zReq
 have hm2:New wA (wA.alloc (.cells zReq 33)):=(Mod.refl _ _).alloc _
 have HX:=hId (hb.new2 hm2)
 have HM:=hId (hm.trans hm2)
 rw [hz1]at hr
 have HR:=hId hr
 clear hb hm hr hm2
 generalize wA.alloc (.cells zReq 33)=w1 at *
 have hxr:w.heap.size≠w.heap.size+1:=by omega
 clear hz1
 generalize hxb:w.heap.size=xb at *
 have HXB:=hId hxb
 clear hxb
 generalize hrb:xb+1=rb at *
 have HRX:=hId hrb
 clear hrb
 have q:=HCK.out w1 HM.out
 clear HCK
 have e0:=HX.out.cell 0
 have e1:=HX.out.cell 1
 have e2:=HX.out.cell 2
 have e3:=HX.out.cell 3
 have e4:=HX.out.cell 4
 have e5:=HX.out.cell 5
 have e6:=HX.out.cell 6
 have e7:=HX.out.cell 7
 have el:=HX.out.lt
 simp only [lqt,lqz,lqs]at e0 e1 e2 e3 e4 e5 e6 e7
 go_wp2_with fail
 refine q.mono ?_
 clear q
 rintro e w2 ⟨rfl,m2⟩
 clear e0 e1 e2 e3 e4 e5 e6 e7 el
 have HX1:=hId (HX.out.new2 m2)
 have HR1:=hId (HR.out.new2 m2)
 have HM1:=hId (HM.out.trans m2)
 clear HX HR HM m2
 have HX:=HX1
 have HR:=HR1
 have HM:=HM1
 clear HX1 HR1 HM1
 have e0:=HX.out.cell 0
 have e1:=HX.out.cell 1
 have e2:=HX.out.cell 2
 have e3:=HX.out.cell 3
 have e4:=HX.out.cell 4
 have e5:=HX.out.cell 5
 have e6:=HX.out.cell 6
 have e7:=HX.out.cell 7
 have el:=HX.out.lt
 simp only [lqt,lqz,lqs]at e0 e1 e2 e3 e4 e5 e6 e7
 by_cases g0:F≠0
 ·have g0b:(F != 0)=true:=by simpa using g0
  have HQ:=hId (HNB.out g0)
  clear HNB HNO g0
  have HFIN:Hid (∀ W',Mod (fun k=>k=rb) w2 W'→RNrm N w (.returned (.tuple #[reqV zReqL none 0 0,.int .i64 F])) W'):=hId (fun W' hm=>RNrm.fault HQ.out (HM.out.step hm (fun i hi e=>by have h1:=HXB.out;have h2:=HRX.out;omega)))
  have hcR:=HR.out.cell
  have hfR:=HR.out.frozen
  have rlt:=HR.out.lt
  have HMF:=hId (fun (v0 v1 v2 v3 v4 v5 v6 v7:Value)=>(Mod.set8 rb w2 v0 v1 v2 v3 v4 v5 v6 v7))
  clear HR HX HM
  go_wp2_with fail
  refine bodyPost_ret (v:=(.tuple #[reqV zReqL none 0 0,.int .i64 F])) (by simp [results,Tryz.results11,go_sem,hcR,hfR,rlt,reqV,zReqL]) rfl ?_
  exact HFIN.out _ (HMF.out _ _ _ _ _ _ _ _)
 have g0b:(F != 0)=false:=by simpa using g0
 have q:=HNO.out w2 HM.out
 clear HNO HNB g0
 obtain⟨N1,N2⟩:=N
 go_wp2_with fail
 refine q.mono ?_
 clear q
 rintro e w3 ⟨A3,n3,c3,rfl,hs3,m3⟩
 obtain⟨q0,q1,q2,q3,q4,q5,q6,q7⟩:=N2
 simp only [reqV]at hs3 ⊢
 clear e0 e1 e2 e3 e4 e5 e6 e7 el
 have HX1:=hId (HX.out.new2 m3)
 have HR1:=hId (HR.out.new2 m3)
 have HM1:=hId (HM.out.trans m3)
 have HH:=hId hs3
 clear HX HR HM m3 hs3
 have HX:=HX1
 have HR:=HR1
 have HM:=HM1
 clear HX1 HR1 HM1
 have HFIN:Hid (∀ W',Mod (fun k=>k=rb) w3 W'→RNrm (N1,⟨q0,q1,q2,q3,q4,q5,q6,q7⟩) w (.returned (.tuple #[reqV ⟨q0,q1,q2,q3,q4,q5,q6,q7⟩ A3 n3 c3,.int .i64 N1])) W'):=hId (fun W' hm=>⟨A3,n3,c3,rfl,HH.out.mod hm (fun g hg e=>hg.ne HR.out.tb (by decide) e),HM.out.step hm (fun i hi e=>by have h1:=HXB.out;have h2:=HRX.out;omega)⟩)
 clear HH
 have hcR:=HR.out.cell
 have hfR:=HR.out.frozen
 have rlt:=HR.out.lt
 have HMF:=hId (fun (v0 v1 v2 v3 v4 v5 v6 v7:Value)=>(Mod.set8 rb w3 v0 v1 v2 v3 v4 v5 v6 v7))
 clear HR HX HM
 go_wp2_with fail
 refine bodyPost_ret (v:=(.tuple #[reqV ⟨q0,q1,q2,q3,q4,q5,q6,q7⟩ A3 n3 c3,.int .i64 N1])) (by simp [results,Tryz.results11,go_sem,hcR,hfR,rlt,reqV,zReqL]) rfl ?_
 exact HFIN.out _ (HMF.out _ _ _ _ _ _ _ _)
set_option maxRecDepth 100000 in
set_option maxHeartbeats 1000000 in
theorem same_request (q:ReqL) (A B:Option Addr) (n m c d:Nat) (w:World) (h1:HSl w A n q.heads) (h2:HSl w B m q.heads) (hn:n≤1000000):
  Calls Tryz.prog 14 #[reqV q A n c,reqV q B m d] w fun e w'=>e= .returned (.bool true)∧New w w':=by
 have hnm:n=m:=h1.1.symm.trans h2.1
 subst hnm
 have HEQ:=hId (fun W (hm:New w W)=>equal_hdrs q.heads A B n c d W (h1.new hm) (h2.new hm) hn)
 clear h1 h2
 obtain⟨at_,me,ho,pa,qu,fr,heads,bo⟩:=q
 simp only [reqV]at HEQ ⊢
 have hb:=Blk.new w 33 #[.int .i64 at_,.string me,.string ho,.string pa,.string qu,.string fr,.slice A n c,.string bo]
 have hm:New w (w.alloc (.cells #[.int .i64 at_,.string me,.string ho,.string pa,.string qu,.string fr,.slice A n c,.string bo] 33)):=(Mod.refl _ _).alloc _
 have hz1:(w.alloc (.cells #[.int .i64 at_,.string me,.string ho,.string pa,.string qu,.string fr,.slice A n c,.string bo] 33)).heap.size=w.heap.size+1:=by simp
 go_enter Tryz.func14,Tryz.ntmps14
 go_upto_region 1 with(fail)
 generalize w.alloc (.cells #[.int .i64 at_,.string me,.string ho,.string pa,.string qu,.string fr,.slice A n c,.string bo] 33)=wA at *
 have hy:=Blk.new wA 33 #[.int .i64 at_,.string me,.string ho,.string pa,.string qu,.string fr,.slice B n d,.string bo]
 have hm2:New wA (wA.alloc (.cells #[.int .i64 at_,.string me,.string ho,.string pa,.string qu,.string fr,.slice B n d,.string bo] 33)):=(Mod.refl _ _).alloc _
 have HM:=hId (hm.trans hm2)
 have hx:=hb.new2 hm2
 rw [hz1]at hy
 clear hb hm hm2
 generalize wA.alloc (.cells #[.int .i64 at_,.string me,.string ho,.string pa,.string qu,.string fr,.slice B n d,.string bo] 33)=w1 at *
 clear hz1
 generalize w.heap.size=xb at *
 have x0:=hx.cell 0
 have x1:=hx.cell 1
 have x2:=hx.cell 2
 have x3:=hx.cell 3
 have x4:=hx.cell 4
 have x5:=hx.cell 5
 have x6:=hx.cell 6
 have x7:=hx.cell 7
 have xl:=hx.lt
 have y0:=hy.cell 0
 have y1:=hy.cell 1
 have y2:=hy.cell 2
 have y3:=hy.cell 3
 have y4:=hy.cell 4
 have y5:=hy.cell 5
 have y6:=hy.cell 6
 have y7:=hy.cell 7
 have yl:=hy.lt
 simp only [lqt,lqz,lqs]at x0 x1 x2 x3 x4 x5 x6 x7 y0 y1 y2 y3 y4 y5 y6 y7
 have q:=HEQ.out w1 HM.out
 clear hx hy HEQ
 have s0:(at_ == at_)=true:=by simp
 have s1:(me.toList == me.toList)=true:=by simp
 have s2:(ho.toList == ho.toList)=true:=by simp
 have s3:(pa.toList == pa.toList)=true:=by simp
 have s4:(qu.toList == qu.toList)=true:=by simp
 have s5:(fr.toList == fr.toList)=true:=by simp
 have s7:(bo.toList == bo.toList)=true:=by simp
 go_wp2_with fail
 refine q.mono ?_
 clear q x0 x1 x2 x3 x4 x5 x6 x7 xl y0 y1 y2 y3 y4 y5 y6 y7 yl
 rintro e w2 ⟨rfl,m2⟩
 go_wp2_with fail
 go_ret
 exact⟨rfl,HM.out.trans m2⟩
set_option maxRecDepth 100000 in
set_option maxHeartbeats 1000000 in
theorem request_full (b k:Nat) (w:World) (hs:SInv b w k) (hk:k<4611686018424000000):
  Calls Tryz.prog 21 #[.pointer (some ⟨b,0,none⟩)] w (RReq b w (k+500)):=by
 have hbl:=hs.lt
 have T:=(SStep.refl hs).alloc (.cells zReq 33)
 have hR:=Blk.new w 33 zReq
 have hz0:(w.alloc (.cells zReq 33)).heap.size=w.heap.size+1:=by simp
 go_enter Tryz.func21,Tryz.ntmps21
 go_wp2_with fail
 have R:=hId hR
 clear hR hs
 generalize w.alloc (.cells zReq 33)=w0 at *
 generalize hrb:w.heap.size=rb at *
 refine(rightRequest_any b k w0 T.inv (by omega)).mono ?_
 rintro e w1 ⟨⟨at_,me,ho,pa,qu,fr,A,n,c,bo⟩,ls,rfl,own,fit,hx⟩
 have HF:=hId fit
 have HO:=hId own
 clear own fit
 have hz1:rb<w0.heap.size:=by omega
 clear hz0
 have R':=hId (R.out.mod hx.only (by omega))
 have T':=T.trans hx
 have z':=hx.only.size
 clear R T hx
 have R:=R'
 have T:=T'
 clear R' T'
 have hzw:w0.heap.size≤w1.heap.size:=z'
 clear z'
 unfold ReqD.val
 simp only
 have hP:=Blk.new w1 33 #[.int .i64 at_,.string me,.string ho,.string pa,.string qu,.string fr,.slice A n c,.string bo]
 have hmP:New w1 (w1.alloc (.cells #[.int .i64 at_,.string me,.string ho,.string pa,.string qu,.string fr,.slice A n c,.string bo] 33)):=(Mod.refl _ _).alloc _
 have P:=hId hP
 have HNE:Hid (∀ g,blkOf A=some g→g≠w1.heap.size∧g≠rb):=hId (fun g e=>by
  have h1:=HO.out.below g e
  have h2:=HO.out.farP g e
  omega)
 have R':=hId (R.out.mod hmP (fun e=>e))
 have HO':=hId (HO.out.new hmP)
 have T':=T.new hmP
 clear R T HO hP hmP
 have R:=R'
 have T:=T'
 have HO:=HO'
 clear R' T' HO'
 go_upto_region 2 with fail
 generalize w1.alloc (.cells #[.int .i64 at_,.string me,.string ho,.string pa,.string qu,.string fr,.slice A n c,.string bo] 33)=w2 at *
 have hpr:rb≠w1.heap.size:=by omega
 have hpb:b≠w1.heap.size:=by omega
 have hpg:rb<w1.heap.size:=by omega
 generalize w1.heap.size=pb at *
 go_wp2_with fail
 refine(flip_any b _ 6 w2 T.inv (by omega) (by omega) (by omega)).mono ?_
 rintro e w3 ⟨q,rfl,hx⟩
 have P':=hId (P.out.mod hx.only (by omega))
 have HO':=hId (HO.out.mod hx.only (fun g e e2=>by have:=HO.out.farP g e;omega))
 have R':=hId (R.out.mod hx.only (by omega))
 have T':=T.trans hx
 have z':=hx.only.size
 clear R T hx
 have R:=R'
 have T:=T'
 clear R' T'
 clear P HO
 have P:=P'
 have HO:=HO'
 clear P' HO'
 cases q
 ·have hcP:=P.out.cell
  have hcR:=R.out.cell
  have hfR:=R.out.frozen
  have plt:=P.out.lt
  have rlt:=R.out.lt
  have hmF:=fun(v0 v1 v2 v3 v4 v5 v6 v7:Value)=>(Mod.set8 rb w3 v0 v1 v2 v3 v4 v5 v6 v7)
  have HMF:=hId hmF
  have HFIN:Hid (∀ W',Mod (fun k=>k=rb) w3 W'→HOwn W' rb A n c ls∧SStep b w W' (k+500)):=hId (fun W' hm=>⟨(HO.out.mod hm (fun g e=>(HNE.out g e).2)).less (by omega),(T.mod0 hm (by intro i e;omega)).more (by omega)⟩)
  clear hmF P R T HO
  go_wp2_with fail
  refine bodyPost_ret (v:=ReqD.val ⟨at_,me,ho,pa,qu,fr,A,n,c,bo⟩) (by simp [results,Tryz.results21,go_sem,hcP,hcR,hfR,plt,rlt,hpr,ReqD.val]) rfl ?_
  refine⟨⟨at_,me,ho,pa,qu,fr,A,n,c,bo⟩,ls,rfl,(by rw [hrb];exact(HFIN.out _ (HMF.out _ _ _ _ _ _ _ _)).1),HF.out,(HFIN.out _ (HMF.out _ _ _ _ _ _ _ _)).2⟩
 ·go_wp2_with fail
  refine(next_any b _ 8 w3 T.inv (by omega) (by omega) (by omega)).mono ?_
  rintro e w4 ⟨m,rfl,hm0,hm8,hx⟩
  have P':=hId (P.out.mod hx.only (by omega))
  have HO':=hId (HO.out.mod hx.only (fun g e e2=>by have:=HO.out.farP g e;omega))
  have R':=hId (R.out.mod hx.only (by omega))
  have T':=T.trans hx
  have z':=hx.only.size
  clear R T hx
  have R:=R'
  have T:=T'
  clear R' T'
  clear P HO
  have P:=P'
  have HO:=HO'
  clear P' HO'
  clear z'
  rcases(by omega:m=0∨m=1∨m=2∨m=3∨m=4∨m=5∨m=6∨m=7)with rfl | rfl | rfl | rfl | rfl | rfl | rfl | rfl
  ·go_wp2_with fail
   refine(odd_any b _ 0 1000 w4 T.inv (by omega) (by omega) (by omega) (by omega)).mono ?_
   rintro e w5 ⟨m,rfl,q1,q2,hx⟩
   have P':=hId (P.out.mod hx.only (by omega))
   have HO':=hId (HO.out.mod hx.only (fun g e e2=>by have:=HO.out.farP g e;omega))
   have R':=hId (R.out.mod hx.only (by omega))
   have T':=T.trans hx
   have z':=hx.only.size
   clear R T hx
   have R:=R'
   have T:=T'
   clear R' T'
   clear P HO
   have P:=P'
   have HO:=HO'
   clear P' HO'
   clear z'
   have hcp:=P.out.cell
   have hfp:=P.out.frozen
   have plt0:=P.out.lt
   have P':=hId (P.out.set 0 (.int .i64 m))
   have hmS:Mod (fun q=>q=pb) w5 (World.setCell w5 ⟨pb,0,none⟩ (.int .i64 m)):=Mod.setCell (S:=fun q=>q=pb) (p:=⟨pb,0,none⟩) (Mod.refl _ _) (.inl rfl) _
   have R':=hId (R.out.mod hmS hpr)
   have HO':=hId (HO.out.mod hmS (fun g e=>(HNE.out g e).1))
   have T':=T.mod0 hmS (fun i e=>by omega)
   clear P R T HO
   have P:=P'
   have R:=R'
   have T:=T'
   have HO:=HO'
   clear P' R' T' HO' hmS
   go_upto_region 19 with fail
   clear hcp hfp plt0
   generalize World.setCell w5 ⟨pb,0,none⟩ (.int .i64 m)=wz at *
   have F:=HF.out
   clear HF
   have HF:Hid (ReqD.Fit ⟨m,me,ho,pa,qu,fr,A,n,c,bo⟩ ls):=hId ⟨by first | exact F.i |(unfold I64;(try dsimp only);omega),by first | exact F.z1 |((try dsimp only);omega),by first | exact F.z2 |((try dsimp only);omega),by first | exact F.z3 |((try dsimp only);omega),by first | exact F.z4 | exact hmz,by first | exact F.z5 |((try dsimp only);omega),by first | exact F.z6 |((try dsimp only);omega),by first | exact F.z7 |((try dsimp only);omega),by first | exact F.h | exact HQ.out⟩
   clear F
   have hcP:=P.out.cell
   have hcR:=R.out.cell
   have hfR:=R.out.frozen
   have plt:=P.out.lt
   have rlt:=R.out.lt
   have hmF:=fun(v0 v1 v2 v3 v4 v5 v6 v7:Value)=>(Mod.set8 rb wz v0 v1 v2 v3 v4 v5 v6 v7)
   have HMF:=hId hmF
   have HFIN:Hid (∀ W',Mod (fun k=>k=rb) wz W'→HOwn W' rb A n c ls∧SStep b w W' (k+500)):=hId (fun W' hm=>⟨(HO.out.mod hm (fun g e=>(HNE.out g e).2)).less (by omega),(T.mod0 hm (by intro i e;omega)).more (by omega)⟩)
   clear hmF P R T HO
   go_wp2_with fail
   refine bodyPost_ret (v:=ReqD.val ⟨m,me,ho,pa,qu,fr,A,n,c,bo⟩) (by simp [results,Tryz.results21,go_sem,hcP,hcR,hfR,plt,rlt,hpr,ReqD.val]) rfl ?_
   refine⟨⟨m,me,ho,pa,qu,fr,A,n,c,bo⟩,ls,rfl,(by rw [hrb];exact(HFIN.out _ (HMF.out _ _ _ _ _ _ _ _)).1),HF.out,(HFIN.out _ (HMF.out _ _ _ _ _ _ _ _)).2⟩
  ·go_wp2_with fail
   refine(tokenText_any b _ w4 T.inv (by omega)).mono ?_
   rintro e w5 ⟨m,rfl,hmz,hx⟩
   have P':=hId (P.out.mod hx.only (by omega))
   have HO':=hId (HO.out.mod hx.only (fun g e e2=>by have:=HO.out.farP g e;omega))
   have R':=hId (R.out.mod hx.only (by omega))
   have T':=T.trans hx
   have z':=hx.only.size
   clear R T hx
   have R:=R'
   have T:=T'
   clear R' T'
   clear P HO
   have P:=P'
   have HO:=HO'
   clear P' HO'
   clear z'
   have hcp:=P.out.cell
   have hfp:=P.out.frozen
   have plt0:=P.out.lt
   have P':=hId (P.out.set 1 (.string m))
   have hmS:Mod (fun q=>q=pb) w5 (World.setCell w5 ⟨pb,1,none⟩ (.string m)):=Mod.setCell (S:=fun q=>q=pb) (p:=⟨pb,1,none⟩) (Mod.refl _ _) (.inl rfl) _
   have R':=hId (R.out.mod hmS hpr)
   have HO':=hId (HO.out.mod hmS (fun g e=>(HNE.out g e).1))
   have T':=T.mod0 hmS (fun i e=>by omega)
   clear P R T HO
   have P:=P'
   have R:=R'
   have T:=T'
   have HO:=HO'
   clear P' R' T' HO' hmS
   go_upto_region 19 with fail
   clear hcp hfp plt0
   generalize World.setCell w5 ⟨pb,1,none⟩ (.string m)=wz at *
   have F:=HF.out
   clear HF
   have HF:Hid (ReqD.Fit ⟨at_,m,ho,pa,qu,fr,A,n,c,bo⟩ ls):=hId ⟨by first | exact F.i |(unfold I64;(try dsimp only);omega),by first | exact F.z1 |((try dsimp only);omega),by first | exact F.z2 |((try dsimp only);omega),by first | exact F.z3 |((try dsimp only);omega),by first | exact F.z4 | exact hmz,by first | exact F.z5 |((try dsimp only);omega),by first | exact F.z6 |((try dsimp only);omega),by first | exact F.z7 |((try dsimp only);omega),by first | exact F.h | exact HQ.out⟩
   clear F
   have hcP:=P.out.cell
   have hcR:=R.out.cell
   have hfR:=R.out.frozen
   have plt:=P.out.lt
   have rlt:=R.out.lt
   have hmF:=fun(v0 v1 v2 v3 v4 v5 v6 v7:Value)=>(Mod.set8 rb wz v0 v1 v2 v3 v4 v5 v6 v7)
   have HMF:=hId hmF
   have HFIN:Hid (∀ W',Mod (fun k=>k=rb) wz W'→HOwn W' rb A n c ls∧SStep b w W' (k+500)):=hId (fun W' hm=>⟨(HO.out.mod hm (fun g e=>(HNE.out g e).2)).less (by omega),(T.mod0 hm (by intro i e;omega)).more (by omega)⟩)
   clear hmF P R T HO
   go_wp2_with fail
   refine bodyPost_ret (v:=ReqD.val ⟨at_,m,ho,pa,qu,fr,A,n,c,bo⟩) (by simp [results,Tryz.results21,go_sem,hcP,hcR,hfR,plt,rlt,hpr,ReqD.val]) rfl ?_
   refine⟨⟨at_,m,ho,pa,qu,fr,A,n,c,bo⟩,ls,rfl,(by rw [hrb];exact(HFIN.out _ (HMF.out _ _ _ _ _ _ _ _)).1),HF.out,(HFIN.out _ (HMF.out _ _ _ _ _ _ _ _)).2⟩
  ·go_wp2_with fail
   refine(hostName_any b _ w4 T.inv (by omega)).mono ?_
   rintro e w5 ⟨m,rfl,hmz,hx⟩
   have P':=hId (P.out.mod hx.only (by omega))
   have HO':=hId (HO.out.mod hx.only (fun g e e2=>by have:=HO.out.farP g e;omega))
   have R':=hId (R.out.mod hx.only (by omega))
   have T':=T.trans hx
   have z':=hx.only.size
   clear R T hx
   have R:=R'
   have T:=T'
   clear R' T'
   clear P HO
   have P:=P'
   have HO:=HO'
   clear P' HO'
   clear z'
   have hcp:=P.out.cell
   have hfp:=P.out.frozen
   have plt0:=P.out.lt
   have P':=hId (P.out.set 2 (.string m))
   have hmS:Mod (fun q=>q=pb) w5 (World.setCell w5 ⟨pb,2,none⟩ (.string m)):=Mod.setCell (S:=fun q=>q=pb) (p:=⟨pb,2,none⟩) (Mod.refl _ _) (.inl rfl) _
   have R':=hId (R.out.mod hmS hpr)
   have HO':=hId (HO.out.mod hmS (fun g e=>(HNE.out g e).1))
   have T':=T.mod0 hmS (fun i e=>by omega)
   clear P R T HO
   have P:=P'
   have R:=R'
   have T:=T'
   have HO:=HO'
   clear P' R' T' HO' hmS
   go_upto_region 19 with fail
   clear hcp hfp plt0
   generalize World.setCell w5 ⟨pb,2,none⟩ (.string m)=wz at *
   have F:=HF.out
   clear HF
   have HF:Hid (ReqD.Fit ⟨at_,me,m,pa,qu,fr,A,n,c,bo⟩ ls):=hId ⟨by first | exact F.i |(unfold I64;(try dsimp only);omega),by first | exact F.z1 |((try dsimp only);omega),by first | exact F.z2 |((try dsimp only);omega),by first | exact F.z3 |((try dsimp only);omega),by first | exact F.z4 | exact hmz,by first | exact F.z5 |((try dsimp only);omega),by first | exact F.z6 |((try dsimp only);omega),by first | exact F.z7 |((try dsimp only);omega),by first | exact F.h | exact HQ.out⟩
   clear F
   have hcP:=P.out.cell
   have hcR:=R.out.cell
   have hfR:=R.out.frozen
   have plt:=P.out.lt
   have rlt:=R.out.lt
   have hmF:=fun(v0 v1 v2 v3 v4 v5 v6 v7:Value)=>(Mod.set8 rb wz v0 v1 v2 v3 v4 v5 v6 v7)
   have HMF:=hId hmF
   have HFIN:Hid (∀ W',Mod (fun k=>k=rb) wz W'→HOwn W' rb A n c ls∧SStep b w W' (k+500)):=hId (fun W' hm=>⟨(HO.out.mod hm (fun g e=>(HNE.out g e).2)).less (by omega),(T.mod0 hm (by intro i e;omega)).more (by omega)⟩)
   clear hmF P R T HO
   go_wp2_with fail
   refine bodyPost_ret (v:=ReqD.val ⟨at_,me,m,pa,qu,fr,A,n,c,bo⟩) (by simp [results,Tryz.results21,go_sem,hcP,hcR,hfR,plt,rlt,hpr,ReqD.val]) rfl ?_
   refine⟨⟨at_,me,m,pa,qu,fr,A,n,c,bo⟩,ls,rfl,(by rw [hrb];exact(HFIN.out _ (HMF.out _ _ _ _ _ _ _ _)).1),HF.out,(HFIN.out _ (HMF.out _ _ _ _ _ _ _ _)).2⟩
  ·go_wp2_with fail
   refine(pathName_any b _ w4 T.inv (by omega)).mono ?_
   rintro e w5 ⟨m,rfl,hmz,hx⟩
   have P':=hId (P.out.mod hx.only (by omega))
   have HO':=hId (HO.out.mod hx.only (fun g e e2=>by have:=HO.out.farP g e;omega))
   have R':=hId (R.out.mod hx.only (by omega))
   have T':=T.trans hx
   have z':=hx.only.size
   clear R T hx
   have R:=R'
   have T:=T'
   clear R' T'
   clear P HO
   have P:=P'
   have HO:=HO'
   clear P' HO'
   clear z'
   have hcp:=P.out.cell
   have hfp:=P.out.frozen
   have plt0:=P.out.lt
   have P':=hId (P.out.set 3 (.string m))
   have hmS:Mod (fun q=>q=pb) w5 (World.setCell w5 ⟨pb,3,none⟩ (.string m)):=Mod.setCell (S:=fun q=>q=pb) (p:=⟨pb,3,none⟩) (Mod.refl _ _) (.inl rfl) _
   have R':=hId (R.out.mod hmS hpr)
   have HO':=hId (HO.out.mod hmS (fun g e=>(HNE.out g e).1))
   have T':=T.mod0 hmS (fun i e=>by omega)
   clear P R T HO
   have P:=P'
   have R:=R'
   have T:=T'
   have HO:=HO'
   clear P' R' T' HO' hmS
   go_upto_region 19 with fail
   clear hcp hfp plt0
   generalize World.setCell w5 ⟨pb,3,none⟩ (.string m)=wz at *
   have F:=HF.out
   clear HF
   have HF:Hid (ReqD.Fit ⟨at_,me,ho,m,qu,fr,A,n,c,bo⟩ ls):=hId ⟨by first | exact F.i |(unfold I64;(try dsimp only);omega),by first | exact F.z1 |((try dsimp only);omega),by first | exact F.z2 |((try dsimp only);omega),by first | exact F.z3 |((try dsimp only);omega),by first | exact F.z4 | exact hmz,by first | exact F.z5 |((try dsimp only);omega),by first | exact F.z6 |((try dsimp only);omega),by first | exact F.z7 |((try dsimp only);omega),by first | exact F.h | exact HQ.out⟩
   clear F
   have hcP:=P.out.cell
   have hcR:=R.out.cell
   have hfR:=R.out.frozen
   have plt:=P.out.lt
   have rlt:=R.out.lt
   have hmF:=fun(v0 v1 v2 v3 v4 v5 v6 v7:Value)=>(Mod.set8 rb wz v0 v1 v2 v3 v4 v5 v6 v7)
   have HMF:=hId hmF
   have HFIN:Hid (∀ W',Mod (fun k=>k=rb) wz W'→HOwn W' rb A n c ls∧SStep b w W' (k+500)):=hId (fun W' hm=>⟨(HO.out.mod hm (fun g e=>(HNE.out g e).2)).less (by omega),(T.mod0 hm (by intro i e;omega)).more (by omega)⟩)
   clear hmF P R T HO
   go_wp2_with fail
   refine bodyPost_ret (v:=ReqD.val ⟨at_,me,ho,m,qu,fr,A,n,c,bo⟩) (by simp [results,Tryz.results21,go_sem,hcP,hcR,hfR,plt,rlt,hpr,ReqD.val]) rfl ?_
   refine⟨⟨at_,me,ho,m,qu,fr,A,n,c,bo⟩,ls,rfl,(by rw [hrb];exact(HFIN.out _ (HMF.out _ _ _ _ _ _ _ _)).1),HF.out,(HFIN.out _ (HMF.out _ _ _ _ _ _ _ _)).2⟩
  ·go_wp2_with fail
   refine(queryName_any b _ w4 T.inv (by omega)).mono ?_
   rintro e w5 ⟨m,rfl,hmz,hx⟩
   have P':=hId (P.out.mod hx.only (by omega))
   have HO':=hId (HO.out.mod hx.only (fun g e e2=>by have:=HO.out.farP g e;omega))
   have R':=hId (R.out.mod hx.only (by omega))
   have T':=T.trans hx
   have z':=hx.only.size
   clear R T hx
   have R:=R'
   have T:=T'
   clear R' T'
   clear P HO
   have P:=P'
   have HO:=HO'
   clear P' HO'
   clear z'
   have hcp:=P.out.cell
   have hfp:=P.out.frozen
   have plt0:=P.out.lt
   have P':=hId (P.out.set 4 (.string m))
   have hmS:Mod (fun q=>q=pb) w5 (World.setCell w5 ⟨pb,4,none⟩ (.string m)):=Mod.setCell (S:=fun q=>q=pb) (p:=⟨pb,4,none⟩) (Mod.refl _ _) (.inl rfl) _
   have R':=hId (R.out.mod hmS hpr)
   have HO':=hId (HO.out.mod hmS (fun g e=>(HNE.out g e).1))
   have T':=T.mod0 hmS (fun i e=>by omega)
   clear P R T HO
   have P:=P'
   have R:=R'
   have T:=T'
   have HO:=HO'
   clear P' R' T' HO' hmS
   go_upto_region 19 with fail
   clear hcp hfp plt0
   generalize World.setCell w5 ⟨pb,4,none⟩ (.string m)=wz at *
   have F:=HF.out
   clear HF
   have HF:Hid (ReqD.Fit ⟨at_,me,ho,pa,m,fr,A,n,c,bo⟩ ls):=hId ⟨by first | exact F.i |(unfold I64;(try dsimp only);omega),by first | exact F.z1 |((try dsimp only);omega),by first | exact F.z2 |((try dsimp only);omega),by first | exact F.z3 |((try dsimp only);omega),by first | exact F.z4 | exact hmz,by first | exact F.z5 |((try dsimp only);omega),by first | exact F.z6 |((try dsimp only);omega),by first | exact F.z7 |((try dsimp only);omega),by first | exact F.h | exact HQ.out⟩
   clear F
   have hcP:=P.out.cell
   have hcR:=R.out.cell
   have hfR:=R.out.frozen
   have plt:=P.out.lt
   have rlt:=R.out.lt
   have hmF:=fun(v0 v1 v2 v3 v4 v5 v6 v7:Value)=>(Mod.set8 rb wz v0 v1 v2 v3 v4 v5 v6 v7)
   have HMF:=hId hmF
   have HFIN:Hid (∀ W',Mod (fun k=>k=rb) wz W'→HOwn W' rb A n c ls∧SStep b w W' (k+500)):=hId (fun W' hm=>⟨(HO.out.mod hm (fun g e=>(HNE.out g e).2)).less (by omega),(T.mod0 hm (by intro i e;omega)).more (by omega)⟩)
   clear hmF P R T HO
   go_wp2_with fail
   refine bodyPost_ret (v:=ReqD.val ⟨at_,me,ho,pa,m,fr,A,n,c,bo⟩) (by simp [results,Tryz.results21,go_sem,hcP,hcR,hfR,plt,rlt,hpr,ReqD.val]) rfl ?_
   refine⟨⟨at_,me,ho,pa,m,fr,A,n,c,bo⟩,ls,rfl,(by rw [hrb];exact(HFIN.out _ (HMF.out _ _ _ _ _ _ _ _)).1),HF.out,(HFIN.out _ (HMF.out _ _ _ _ _ _ _ _)).2⟩
  ·go_wp2_with fail
   refine(fieldText_any b _ w4 T.inv (by omega)).mono ?_
   rintro e w5 ⟨m,rfl,hmz,hx⟩
   have P':=hId (P.out.mod hx.only (by omega))
   have HO':=hId (HO.out.mod hx.only (fun g e e2=>by have:=HO.out.farP g e;omega))
   have R':=hId (R.out.mod hx.only (by omega))
   have T':=T.trans hx
   have z':=hx.only.size
   clear R T hx
   have R:=R'
   have T:=T'
   clear R' T'
   clear P HO
   have P:=P'
   have HO:=HO'
   clear P' HO'
   clear z'
   have hcp:=P.out.cell
   have hfp:=P.out.frozen
   have plt0:=P.out.lt
   have P':=hId (P.out.set 5 (.string m))
   have hmS:Mod (fun q=>q=pb) w5 (World.setCell w5 ⟨pb,5,none⟩ (.string m)):=Mod.setCell (S:=fun q=>q=pb) (p:=⟨pb,5,none⟩) (Mod.refl _ _) (.inl rfl) _
   have R':=hId (R.out.mod hmS hpr)
   have HO':=hId (HO.out.mod hmS (fun g e=>(HNE.out g e).1))
   have T':=T.mod0 hmS (fun i e=>by omega)
   clear P R T HO
   have P:=P'
   have R:=R'
   have T:=T'
   have HO:=HO'
   clear P' R' T' HO' hmS
   go_upto_region 19 with fail
   clear hcp hfp plt0
   generalize World.setCell w5 ⟨pb,5,none⟩ (.string m)=wz at *
   have F:=HF.out
   clear HF
   have HF:Hid (ReqD.Fit ⟨at_,me,ho,pa,qu,m,A,n,c,bo⟩ ls):=hId ⟨by first | exact F.i |(unfold I64;(try dsimp only);omega),by first | exact F.z1 |((try dsimp only);omega),by first | exact F.z2 |((try dsimp only);omega),by first | exact F.z3 |((try dsimp only);omega),by first | exact F.z4 | exact hmz,by first | exact F.z5 |((try dsimp only);omega),by first | exact F.z6 |((try dsimp only);omega),by first | exact F.z7 |((try dsimp only);omega),by first | exact F.h | exact HQ.out⟩
   clear F
   have hcP:=P.out.cell
   have hcR:=R.out.cell
   have hfR:=R.out.frozen
   have plt:=P.out.lt
   have rlt:=R.out.lt
   have hmF:=fun(v0 v1 v2 v3 v4 v5 v6 v7:Value)=>(Mod.set8 rb wz v0 v1 v2 v3 v4 v5 v6 v7)
   have HMF:=hId hmF
   have HFIN:Hid (∀ W',Mod (fun k=>k=rb) wz W'→HOwn W' rb A n c ls∧SStep b w W' (k+500)):=hId (fun W' hm=>⟨(HO.out.mod hm (fun g e=>(HNE.out g e).2)).less (by omega),(T.mod0 hm (by intro i e;omega)).more (by omega)⟩)
   clear hmF P R T HO
   go_wp2_with fail
   refine bodyPost_ret (v:=ReqD.val ⟨at_,me,ho,pa,qu,m,A,n,c,bo⟩) (by simp [results,Tryz.results21,go_sem,hcP,hcR,hfR,plt,rlt,hpr,ReqD.val]) rfl ?_
   refine⟨⟨at_,me,ho,pa,qu,m,A,n,c,bo⟩,ls,rfl,(by rw [hrb];exact(HFIN.out _ (HMF.out _ _ _ _ _ _ _ _)).1),HF.out,(HFIN.out _ (HMF.out _ _ _ _ _ _ _ _)).2⟩
  ·go_wp2_with fail
   refine(headers_any b _ 4 w4 T.inv (by omega) (by omega)).mono ?_
   rintro e w5 ⟨A2,n2,c2,ls2,rfl,own,hn2,hsm,hx⟩
   have HQ:=hId hsm
   have hpl4:=P.out.lt
   have hn2b:n2≤60:=by omega
   have P':=hId (P.out.mod hx.only (by omega))
   have HO':=hId (HO.out.mod hx.only (fun g e e2=>by have:=HO.out.farP g e;omega))
   have R':=hId (R.out.mod hx.only (by omega))
   have T':=T.trans hx
   have z':=hx.only.size
   clear R T hx
   have R:=R'
   have T:=T'
   clear R' T'
   clear P HO
   have P:=P'
   have HO:=HO'
   clear P' HO'
   clear z' HO HNE hsm hn2
   have HNE:Hid (∀ g,blkOf A2=some g→g≠pb∧g≠rb):=hId (fun g e=>by
    have h2:=own.farP g e
    omega)
   have HO:=hId own
   clear own
   have hcp:=P.out.cell
   have hfp:=P.out.frozen
   have plt0:=P.out.lt
   have P':=hId (P.out.set 6 (.slice A2 n2 c2))
   have hmS:Mod (fun q=>q=pb) w5 (World.setCell w5 ⟨pb,6,none⟩ (.slice A2 n2 c2)):=Mod.setCell (S:=fun q=>q=pb) (p:=⟨pb,6,none⟩) (Mod.refl _ _) (.inl rfl) _
   have R':=hId (R.out.mod hmS hpr)
   have HO':=hId (HO.out.mod hmS (fun g e=>(HNE.out g e).1))
   have T':=T.mod0 hmS (fun i e=>by omega)
   clear P R T HO
   have P:=P'
   have R:=R'
   have T:=T'
   have HO:=HO'
   clear P' R' T' HO' hmS
   go_upto_region 19 with fail
   clear hcp hfp plt0
   generalize World.setCell w5 ⟨pb,6,none⟩ (.slice A2 n2 c2)=wz at *
   have F:=HF.out
   clear HF
   have HF:Hid (ReqD.Fit ⟨at_,me,ho,pa,qu,fr,A2,n2,c2,bo⟩ ls2):=hId ⟨by first | exact F.i |(unfold I64;(try dsimp only);omega),by first | exact F.z1 |((try dsimp only);omega),by first | exact F.z2 |((try dsimp only);omega),by first | exact F.z3 |((try dsimp only);omega),by first | exact F.z4 | exact hmz,by first | exact F.z5 |((try dsimp only);omega),by first | exact F.z6 |((try dsimp only);omega),by first | exact F.z7 |((try dsimp only);omega),by first | exact F.h | exact HQ.out⟩
   clear F
   have hcP:=P.out.cell
   have hcR:=R.out.cell
   have hfR:=R.out.frozen
   have plt:=P.out.lt
   have rlt:=R.out.lt
   have hmF:=fun(v0 v1 v2 v3 v4 v5 v6 v7:Value)=>(Mod.set8 rb wz v0 v1 v2 v3 v4 v5 v6 v7)
   have HMF:=hId hmF
   have HFIN:Hid (∀ W',Mod (fun k=>k=rb) wz W'→HOwn W' rb A2 n2 c2 ls2∧SStep b w W' (k+500)):=hId (fun W' hm=>⟨(HO.out.mod hm (fun g e=>(HNE.out g e).2)).less (by omega),(T.mod0 hm (by intro i e;omega)).more (by omega)⟩)
   clear hmF P R T HO
   go_wp2_with fail
   refine bodyPost_ret (v:=ReqD.val ⟨at_,me,ho,pa,qu,fr,A2,n2,c2,bo⟩) (by simp [results,Tryz.results21,go_sem,hcP,hcR,hfR,plt,rlt,hpr,ReqD.val]) rfl ?_
   refine⟨⟨at_,me,ho,pa,qu,fr,A2,n2,c2,bo⟩,ls2,rfl,(by rw [hrb];exact(HFIN.out _ (HMF.out _ _ _ _ _ _ _ _)).1),HF.out,(HFIN.out _ (HMF.out _ _ _ _ _ _ _ _)).2⟩
  ·go_wp2_with fail
   refine(pick_any [20000,20001] b _ w4.heap.size 2 _ (T.alloc _).inv (by omega) (Blk.new _ _ _) rfl (by omega) (by omega)).mono ?_
   rintro e w5 ⟨m,rfl,hmm,hx⟩
   have hm01:0≤m∧m≤20001:=by simp at hmm;omega
   have P':=hId (P.out.mod hx.only.pre.1 (by omega))
   have HO':=hId (HO.out.mod hx.only.pre.1 (fun g e e2=>by have:=HO.out.farP g e;omega))
   have R':=hId (R.out.mod hx.only.pre.1 (by omega))
   have T':=(T.alloc _).trans hx
   have z':=hx.only.pre.2.1
   clear R T hx
   have R:=R'
   have T:=T'
   clear R' T'
   clear P HO
   have P:=P'
   have HO:=HO'
   clear P' HO'
   clear z' hmm
   obtain⟨j,rfl⟩:=Int.eq_ofNat_of_zero_le hm01.1
   have hrp:=Tryz.strings_Repeat ⟨#[98]⟩ j w5 (by omega) (by have e:(⟨#[98]⟩:ByteArray).size=1:=rfl;rw [e];omega)
   go_wp2_with fail
   refine hrp.mono ?_
   clear hrp
   rintro e w6 ⟨rfl,hm6⟩
   have hm56:New w5 w6:=Mod.of_below hm6
   have hVz:(⟨(Lib.repeatL (⟨#[98]⟩:ByteArray).data.toList j).toArray⟩:ByteArray).size≤20001:=by
    show(Lib.repeatL _ _).toArray.size≤_
    rw [List.size_toArray,Lib.repeatL_length]
    have e:(⟨#[98]⟩:ByteArray).data.toList.length=1:=rfl
    rw [e]
    omega
   generalize (⟨(Lib.repeatL (⟨#[98]⟩:ByteArray).data.toList j).toArray⟩:ByteArray)=V at *
   have P':=hId (P.out.new2 hm56)
   have R':=hId (R.out.mod hm56 (fun e=>e))
   have HO':=hId (HO.out.new hm56)
   have T':=T.new hm56
   clear P R T HO hm6 hm56
   have P:=P'
   have R:=R'
   have T:=T'
   have HO:=HO'
   clear P' R' T' HO'
   have hcp:=P.out.cell
   have hfp:=P.out.frozen
   have plt0:=P.out.lt
   have P':=hId (P.out.set 7 (.string V))
   have hmS:Mod (fun q=>q=pb) w6 (World.setCell w6 ⟨pb,7,none⟩ (.string V)):=Mod.setCell (S:=fun q=>q=pb) (p:=⟨pb,7,none⟩) (Mod.refl _ _) (.inl rfl) _
   have R':=hId (R.out.mod hmS hpr)
   have HO':=hId (HO.out.mod hmS (fun g e=>(HNE.out g e).1))
   have T':=T.mod0 hmS (fun i e=>by omega)
   clear P R T HO
   have P:=P'
   have R:=R'
   have T:=T'
   have HO:=HO'
   clear P' R' T' HO' hmS
   go_upto_region 19 with fail
   clear hcp hfp plt0
   generalize World.setCell w6 ⟨pb,7,none⟩ (.string V)=wz at *
   have F:=HF.out
   clear HF
   have HF:Hid (ReqD.Fit ⟨at_,me,ho,pa,qu,fr,A,n,c,V⟩ ls):=hId ⟨by first | exact F.i |(unfold I64;(try dsimp only);omega),by first | exact F.z1 |((try dsimp only);omega),by first | exact F.z2 |((try dsimp only);omega),by first | exact F.z3 |((try dsimp only);omega),by first | exact F.z4 | exact hmz,by first | exact F.z5 |((try dsimp only);omega),by first | exact F.z6 |((try dsimp only);omega),by first | exact F.z7 |((try dsimp only);omega),by first | exact F.h | exact HQ.out⟩
   clear F
   have hcP:=P.out.cell
   have hcR:=R.out.cell
   have hfR:=R.out.frozen
   have plt:=P.out.lt
   have rlt:=R.out.lt
   have hmF:=fun(v0 v1 v2 v3 v4 v5 v6 v7:Value)=>(Mod.set8 rb wz v0 v1 v2 v3 v4 v5 v6 v7)
   have HMF:=hId hmF
   have HFIN:Hid (∀ W',Mod (fun k=>k=rb) wz W'→HOwn W' rb A n c ls∧SStep b w W' (k+500)):=hId (fun W' hm=>⟨(HO.out.mod hm (fun g e=>(HNE.out g e).2)).less (by omega),(T.mod0 hm (by intro i e;omega)).more (by omega)⟩)
   clear hmF P R T HO
   go_wp2_with fail
   refine bodyPost_ret (v:=ReqD.val ⟨at_,me,ho,pa,qu,fr,A,n,c,V⟩) (by simp [results,Tryz.results21,go_sem,hcP,hcR,hfR,plt,rlt,hpr,ReqD.val]) rfl ?_
   refine⟨⟨at_,me,ho,pa,qu,fr,A,n,c,V⟩,ls,rfl,(by rw [hrb];exact(HFIN.out _ (HMF.out _ _ _ _ _ _ _ _)).1),HF.out,(HFIN.out _ (HMF.out _ _ _ _ _ _ _ _)).2⟩
end Go.Proofs.YtnlloaimplgjnaaGreatDoor
