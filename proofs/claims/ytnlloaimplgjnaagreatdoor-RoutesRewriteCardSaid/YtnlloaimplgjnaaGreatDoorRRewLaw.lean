/- The law RoutesRewrite, walked. Conditions: the argument is a slice of ints that can be read; the library's variables lie as they should. -/
import Derived.Test.YtnlloaimplgjnaaGreatDoorNormBGrp
import Derived.Test.YtnlloaimplgjnaaGreatDoorBuildOfGrp
import Derived.Test.YtnlloaimplgjnaaGreatDoorTplKGrp
import Derived.Test.YtnlloaimplgjnaaGreatDoorNrmLwGrp
import Derived.Test.YtnlloaimplgjnaaGreatDoorHeld4Grp
import Derived.Test.YtnlloaimplgjnaaGreatDoorRtMk3Grp
import Derived.Test.YtnlloaimplgjnaaGreatDoorRefRtGrp
import Derived.Test.YtnlloaimplgjnaaGreatDoorCasedGrp
import Derived.Test.YtnlloaimplgjnaaGreatDoorRtLawGrp
namespace Go.Proofs.YtnlloaimplgjnaaGreatDoor
open Go.RowKit
set_option linter.unusedVariables false
set_option linter.unusedSimpArgs false
theorem sentOf_heads (r:RtD) (q:ReqL):(sentOf r q).2.heads.length≤q.heads.length:=by
 have e:sentOf r q=match hitOf r q with
  | none=>(8,zReqL)
  | some l=>if r.dest=⟨#[]⟩ then(0,q) else if (buildOf r.dest l).1≠0 then((buildOf r.dest l).1,zReqL) else(0,{q with path:=⟨(buildOf r.dest l).2.toArray⟩}):=rfl
 rw [e]
 cases hitOf r q with
 | none=>exact Nat.zero_le _
 | some l=>
  simp only
  split
  ·exact Nat.le_refl _
  ·split
   ·exact Nat.zero_le _
   ·exact Nat.le_refl _
theorem ErrSyn.lt2 {w:World} (h:ErrSyn w):2<w.heap.size:=by
 obtain⟨m,hc,hr⟩:=h
 rcases Nat.lt_or_ge 2 w.heap.size with hlt | hge
 ·exact hlt
 ·simp [World.cell?,Array.getElem?_eq_none hge]at hc
theorem ErrSyn.stream {w0 w w':World} {b k:Nat} (h0:ErrSyn w0) (hb:w0.heap.size≤b) (h:ErrSyn w) (hs:SStep b w w' k):ErrSyn w':=by
 have hl:=h.lt2
 have hl0:=h0.lt2
 obtain⟨m,hc,hr⟩:=h
 exact⟨m,(hs.only.cell (p:=⟨2,0,none⟩) hl (fun e=>by have e2:2=b:=e;omega)).trans hc,hr⟩
theorem Pow10.streamR {w0 w w':World} {b k:Nat} (h0:Pow10 w0) (hb:w0.heap.size≤b) (h:Pow10 w) (hm:SStep b w w' k):Pow10 w':=h0.mod h hm.only (fun g hg e=>by omega)
theorem HOwn.streamR {b k B:Nat} {w w':World} {A:Option Addr} {n c:Nat} {ls:List PairD} (h:HOwn w B A n c ls) (hb:b<B) (hm:SStep b w w' k):HOwn w' B A n c ls:=h.mod hm.only (fun g e e2=>by have:=h.farP g e;omega)
set_option maxRecDepth 100000 in
set_option maxHeartbeats 3000000 in
theorem routesRewrite_walk (A:Option Addr) (n c:Nat) (w:World) (h:InInts w A n) (hX0:MaxLn w) (hP0:Pow10 w) (hE0:ErrSyn w):
  Calls Tryz.prog 3 #[.slice A n c] w fun e w'=>e= .returned (.bool true)∧New w w':=by
 have hs:=SInv.start (c:=c) h
 go_enter Tryz.func3,Tryz.ntmps3
 go_wp2_with fail
 have T0:=SStep.refl hs
 have hA:New w (w.alloc (.cells #[.slice A n c,.int .i64 0] 25)):=(Mod.refl _ _).alloc _
 have HXA:=hId (MaxB.of hX0 (Nat.le_refl _) (hX0.new hA))
 have HPA:=hId (hP0.new hA)
 have HEA:=hId (hE0.new hA)
 have HP0:=hId hP0
 have HE0:=hId hE0
 clear hX0 hP0 hE0
 generalize hW0:w.alloc (.cells #[.slice A n c,.int .i64 0] 25)=W0 at *
 have hnews:∀ w' k,SStep w.heap.size W0 w' k→New w w':=fun w' k hh=>by rw [← hW0]at hh;exact hh.news
 have HN:=hId hnews
 have hW0z:W0.heap.size=w.heap.size+1:=by rw [← hW0];simp
 clear hnews hW0 hA
 refine(oneRoute_any ⟨#[114,97]⟩ _ _ _ hs (by omega) HXA.out (by decide)).mono ?_
 rintro e w1 ⟨x,r,rfl,hra,hmi,h1⟩
 have T1:=T0.trans h1
 have HX1:=hId (HXA.out.stream h1)
 have HP1:=hId (HP0.out.streamR (Nat.le_refl _) HPA.out h1)
 have HE1:=hId (HE0.out.stream (Nat.le_refl _) HEA.out h1)
 have HRA:=hId hra
 have HMI:=hId hmi
 clear T0 h1 HXA HPA HEA hs hra hmi
 go_wp2_with fail
 refine(routeRequest_full _ _ w1 T1.inv (by omega)).mono ?_
 rintro e w2 ⟨d,ls,rfl,hown,hfit,h2⟩
 have T2:=T1.trans h2
 have HX2:=hId (HX1.out.stream h2)
 have HP2:=hId (HP0.out.streamR (Nat.le_refl _) HP1.out h2)
 have HE2:=hId (HE0.out.stream (Nat.le_refl _) HE1.out h2)
 have HRA2:=hId (HRA.out.stream T1.inv h2)
 have HOW:=hId hown
 have HFT:=hId hfit
 have HB1:Hid (w.heap.size<w1.heap.size):=hId (by have:=T1.only.size;omega)
 clear T1 h2 HX1 HP1 HE1 HRA hown hfit
 go_wp2_with fail
 refine(pathName_any _ _ w2 T2.inv (by omega)).mono ?_
 rintro e w3 ⟨pn,rfl,hpn,h3⟩
 have T3:=T2.trans h3
 have HX3:=hId (HX2.out.stream h3)
 have HP3:=hId (HP0.out.streamR (Nat.le_refl _) HP2.out h3)
 have HE3:=hId (HE0.out.stream (Nat.le_refl _) HE2.out h3)
 have HRA3:=hId (HRA2.out.stream T2.inv h3)
 have HOW3:=hId (HOW.out.streamR HB1.out h3)
 clear T2 h3 HX2 HP2 HE2 HRA2 HOW
 go_wp2_with fail
 have hal:New w3 (w3.alloc (.cells #[.string ⟨#[47,118,50,47,99]⟩,.string ⟨#[47,99,47,121]⟩,.string ⟨#[47,118,50]⟩,.string ⟨#[47,118,50,47,120,47,121]⟩,.string ⟨#[47,97,47,99]⟩,.string ⟨#[47,97]⟩,.string pn] 9)):=(Mod.refl _ _).alloc _
 refine(some_any [⟨#[47,118,50,47,99]⟩,⟨#[47,99,47,121]⟩,⟨#[47,118,50]⟩,⟨#[47,118,50,47,120,47,121]⟩,⟨#[47,97,47,99]⟩,⟨#[47,97]⟩,pn] _ _ w3.heap.size 7 _ (T3.alloc _).inv (by omega) (Blk.new _ _ _) rfl (by omega) (by omega)).mono ?_
 rintro e w4 ⟨p,rfl,hp,h4⟩
 have T4:=(T3.alloc _).trans h4
 have HX4:=hId ((HX3.out.mod hal (fun e=>e)).stream h4)
 have HP4:=hId (HP0.out.streamR (Nat.le_refl _) (HP3.out.new hal) h4)
 have HE4:=hId (HE0.out.stream (Nat.le_refl _) (HE3.out.new hal) h4)
 have HRA4:=hId ((HRA3.out.new hal).stream (T3.alloc _).inv h4)
 have HOW4:=hId (HOwn.streamR (HOW3.out.new hal) HB1.out h4)
 have hpz:p.size≤1040:=by
  simp only [List.mem_cons,List.not_mem_nil,or_false]at hp
  rcases hp with rfl | rfl | rfl | rfl | rfl | rfl | rfl
  all_goals first | exact hpn | decide
 clear T3 h4 HX3 HP3 HE3 HRA3 HOW3 hp hpn hal HB1 HP0 HE0
 have HHS:=hId HOW4.out.sl
 have HT4:=hId T4
 clear HOW4 T4
 -- what is called from here on
 have HX:=hId HX4.out.1
 have HRW:=hId (fun W (hm:New w4 W)=>rt_rewrite x r d ls W (HRA4.out.new hm) HMI.out (HHS.out.new hm) HFT.out (HX.out.new hm))
 have HBK:=hId (fun W (hm:New w4 W)=>rt_back x r p W (HRA4.out.new hm) HMI.out (by omega) (HX.out.new hm))
 have HRF:=hId (fun W (hm:New w4 W)=>ref_routeFault x r W (HRA4.out.new hm) HMI.out.short (HX.out.new hm) (HP4.out.new hm))
 have HNM:=hId (fun W (hm:New w4 W)=>law_normal d ls W (HHS.out.new hm) HFT.out (HX.out.new hm) (HP4.out.new hm) (HE4.out.new hm))
 have HLS:Hid ((d.data ls).heads.length≤60):=hId (by have h1:=HFT.out.z7;have h2:=HHS.out.1;show ls.length≤60;omega)
 have HLH:Hid ((d.data ls).host.size≤70):=hId HFT.out.z2
 have HRO:=hId (fun W (hm:New w4 W) (h1:(normOf (d.data ls)).1=0) A' n' c' (hh:HSl W A' n' (normOf (d.data ls)).2.heads)=>ref_rewriteOf x r (normOf (d.data ls)).2 A' n' c' W (HRA4.out.new hm) hh (by have:=HMI.out.path;omega) (by have:=HMI.out.dest;omega) (by have:=(normOf_is h1).2.2;omega) (by have:=(normOf_is h1).1;have:=HLH.out;omega) (fun y hy=>by have:=HMI.out.hosts.2 y hy;omega) (by have:=HMI.out.hosts.1;omega) (by have:=HMI.out.needs.1;omega) (by have:=HMI.out.methods.1;omega) (by have:=(normOf_is h1).2.1;have:=hh.1;have:=HLS.out;omega) (HX.out.new hm) (HE4.out.new hm))
 have HBO:=hId (fun W (hm:New w4 W) (hf:routeF r=0)=>ref_backOf x r p W (HRA4.out.new hm) HMI.out hf (by omega) (HX.out.new hm) (HE4.out.new hm))
 have HRE:Hid (rewriteOf r (d.data ls)=if routeF r≠0 then(routeF r,zReqL) else if (normOf (d.data ls)).1≠0 then((normOf (d.data ls)).1,zReqL) else sentOf r (normOf (d.data ls)).2):=hId rfl
 have HNL:=hId (fun (h1:(normOf (d.data ls)).1=0)=>(normOf_is h1).2.1)
 clear HRA4 HMI HFT HP4 HE4 HX4 HLH
 obtain⟨key,ha,hn',hc,pth,ma,mn,mc,na,nn,nc,dst⟩:=x
 obtain⟨at_,me,ho,pa,qu,fr,A2,n2,c2,bo⟩:=d
 simp only [RA.val,ReqD.val]at HRW HBK HRF HNM HRO HBO HHS
 clear HHS
 have hb1:=Blk.new w4 29 #[.string key,.slice ha hn' hc,.string pth,.slice ma mn mc,.slice na nn nc,.string dst]
 have hm1:New w4 (w4.alloc (.cells #[.string key,.slice ha hn' hc,.string pth,.slice ma mn mc,.slice na nn nc,.string dst] 29)):=(Mod.refl _ _).alloc _
 have hz1:(w4.alloc (.cells #[.string key,.slice ha hn' hc,.string pth,.slice ma mn mc,.slice na nn nc,.string dst] 29)).heap.size=w4.heap.size+1:=by simp
 simp only [RA.val,ReqD.val]
 go_upto_region 3 with(fail)
 generalize w4.alloc (.cells #[.string key,.slice ha hn' hc,.string pth,.slice ma mn mc,.slice na nn nc,.string dst] 29)=wA at *
 have hb2:=Blk.new wA 33 #[.int .i64 at_,.string me,.string ho,.string pa,.string qu,.string fr,.slice A2 n2 c2,.string bo]
 have hm2:New wA (wA.alloc (.cells #[.int .i64 at_,.string me,.string ho,.string pa,.string qu,.string fr,.slice A2 n2 c2,.string bo] 33)):=(Mod.refl _ _).alloc _
 have HBr:=hId (hb1.new2 hm2)
 have HM:=hId (hm1.trans hm2)
 rw [hz1]at hb2
 have HBq:=hId hb2
 clear hb1 hm1 hb2 hm2
 generalize wA.alloc (.cells #[.int .i64 at_,.string me,.string ho,.string pa,.string qu,.string fr,.slice A2 n2 c2,.string bo] 33)=w5 at *
 clear hz1
 generalize w4.heap.size=rb at *
 have hrq:rb≠rb+1:=by omega
 generalize rb+1=qb at *
 obtain⟨N,hN⟩:∃ N,normOf (ReqD.data ⟨at_,me,ho,pa,qu,fr,A2,n2,c2,bo⟩ ls)=N:=⟨_,rfl⟩
 obtain⟨RES,hRES⟩:∃ R,rewriteOf r (ReqD.data ⟨at_,me,ho,pa,qu,fr,A2,n2,c2,bo⟩ ls)=R:=⟨_,rfl⟩
 rw [hN]at HNM HRO HRE HNL
 rw [hRES]at HRW HRE
 clear hN hRES
 generalize ReqD.data ⟨at_,me,ho,pa,qu,fr,A2,n2,c2,bo⟩ ls=D at *
 generalize routeF r=F at *
 obtain⟨re,r0,r1,r2,r3,r4,r5,r6,r7⟩:=RES
 obtain⟨ne,N2⟩:=N
 unfold RNrm at HRW HNM
 simp only at HRW HNM HRO HRE HNL
 have q:=HRW.out w5 HM.out
 clear HRW
 have x0:=HBr.out.cell 0
 have x1:=HBr.out.cell 1
 have x2:=HBr.out.cell 2
 have x3:=HBr.out.cell 3
 have x4:=HBr.out.cell 4
 have x5:=HBr.out.cell 5
 have xl:=HBr.out.lt
 simp only [lqt,lqz,lqs]at x0 x1 x2 x3 x4 x5
 have y0:=HBq.out.cell 0
 have y1:=HBq.out.cell 1
 have y2:=HBq.out.cell 2
 have y3:=HBq.out.cell 3
 have y4:=HBq.out.cell 4
 have y5:=HBq.out.cell 5
 have y6:=HBq.out.cell 6
 have y7:=HBq.out.cell 7
 have yl:=HBq.out.lt
 simp only [lqt,lqz,lqs]at y0 y1 y2 y3 y4 y5 y6 y7
 go_wp2_with fail
 refine q.mono ?_
 clear q
 clear x0 x1 x2 x3 x4 x5 xl y0 y1 y2 y3 y4 y5 y6 y7 yl
 rintro e w6 ⟨A6,n6,c6,rfl,hs6,m6⟩
 have HBrq:=hId (HBr.out.new2 m6)
 have HBqq:=hId (HBq.out.new2 m6)
 have HMq:=hId (HM.out.trans m6)
 clear HBr HBq HM
 have HBr:=HBrq
 have HBq:=HBqq
 have HM:=HMq
 clear HBrq HBqq HMq
 simp only [reqV]at hs6 ⊢
 have hb7:=Blk.new w6 33 #[.int .i64 r0,.string r1,.string r2,.string r3,.string r4,.string r5,.slice A6 n6 c6,.string r7]
 have hm7:New w6 (w6.alloc (.cells #[.int .i64 r0,.string r1,.string r2,.string r3,.string r4,.string r5,.slice A6 n6 c6,.string r7] 33)):=(Mod.refl _ _).alloc _
 have H7:=hId (hs6.new hm7)
 clear hs6 m6
 go_upto_region 4 with(fail)
 have HBrq:=hId (HBr.out.new2 hm7)
 have HBqq:=hId (HBq.out.new2 hm7)
 have HMq:=hId (HM.out.trans hm7)
 clear HBr HBq HM
 have HBr:=HBrq
 have HBq:=HBqq
 have HM:=HMq
 clear HBrq HBqq HMq
 have HB7:=hId hb7
 clear hb7
 generalize w6.alloc (.cells #[.int .i64 r0,.string r1,.string r2,.string r3,.string r4,.string r5,.slice A6 n6 c6,.string r7] 33)=w7 at *
 generalize w6.heap.size=b7 at *
 clear hm7
 have q:=HBK.out w7 HM.out
 clear HBK
 have x0:=HBr.out.cell 0
 have x1:=HBr.out.cell 1
 have x2:=HBr.out.cell 2
 have x3:=HBr.out.cell 3
 have x4:=HBr.out.cell 4
 have x5:=HBr.out.cell 5
 have xl:=HBr.out.lt
 simp only [lqt,lqz,lqs]at x0 x1 x2 x3 x4 x5
 obtain⟨K,hK⟩:∃ K,(if F≠0 then(F,[]) else backOf r p)=K:=⟨_,rfl⟩
 have HK:=hId hK
 rw [hK]at q
 clear hK
 obtain⟨ke,kt⟩:=K
 unfold RTxt at q
 simp only at q
 obtain⟨KT,hKT⟩:∃ T,(⟨kt.toArray⟩:ByteArray)=T:=⟨_,rfl⟩
 rw [hKT]at q
 have HKT:=hId hKT
 clear hKT
 go_wp2_with fail
 refine q.mono ?_
 clear q x0 x1 x2 x3 x4 x5 xl
 rintro e w8 ⟨rfl,m8⟩
 have H8:=hId (H7.out.new m8)
 clear H7
 have HBrq:=hId (HBr.out.new2 m8)
 have HBqq:=hId (HBq.out.new2 m8)
 have HB7q:=hId (HB7.out.new2 m8)
 have HMq:=hId (HM.out.trans m8)
 clear HBr HBq HB7 HM
 have HBr:=HBrq
 have HBq:=HBqq
 have HB7:=HB7q
 have HM:=HMq
 clear HBrq HBqq HB7q HMq
 clear m8
 have q:=HRF.out w8 HM.out
 clear HRF
 have x0:=HBr.out.cell 0
 have x1:=HBr.out.cell 1
 have x2:=HBr.out.cell 2
 have x3:=HBr.out.cell 3
 have x4:=HBr.out.cell 4
 have x5:=HBr.out.cell 5
 have xl:=HBr.out.lt
 simp only [lqt,lqz,lqs]at x0 x1 x2 x3 x4 x5
 go_wp2_with fail
 refine q.mono ?_
 clear q x0 x1 x2 x3 x4 x5 xl
 rintro e w9 ⟨rfl,m9⟩
 have H9:=hId (H8.out.new m9)
 clear H8
 have HBrq:=hId (HBr.out.new2 m9)
 have HBqq:=hId (HBq.out.new2 m9)
 have HB7q:=hId (HB7.out.new2 m9)
 have HMq:=hId (HM.out.trans m9)
 clear HBr HBq HB7 HM
 have HBr:=HBrq
 have HBq:=HBqq
 have HB7:=HB7q
 have HM:=HMq
 clear HBrq HBqq HB7q HMq
 clear m9
 have q:=HNM.out w9 HM.out
 clear HNM
 have y0:=HBq.out.cell 0
 have y1:=HBq.out.cell 1
 have y2:=HBq.out.cell 2
 have y3:=HBq.out.cell 3
 have y4:=HBq.out.cell 4
 have y5:=HBq.out.cell 5
 have y6:=HBq.out.cell 6
 have y7:=HBq.out.cell 7
 have yl:=HBq.out.lt
 simp only [lqt,lqz,lqs]at y0 y1 y2 y3 y4 y5 y6 y7
 go_wp2_with fail
 refine q.mono ?_
 clear q y0 y1 y2 y3 y4 y5 y6 y7 yl
 rintro e wa ⟨Aa,na',ca,rfl,hsa,ma⟩
 have HN2:=hId hsa
 have Ha:=hId (H9.out.new ma)
 clear H9 hsa
 have HBrq:=hId (HBr.out.new2 ma)
 have HBqq:=hId (HBq.out.new2 ma)
 have HB7q:=hId (HB7.out.new2 ma)
 have HMq:=hId (HM.out.trans ma)
 clear HBr HBq HB7 HM
 have HBr:=HBrq
 have HBq:=HBqq
 have HB7:=HB7q
 have HM:=HMq
 clear HBrq HBqq HB7q HMq
 clear ma
 have hrv:reqV N2 Aa na' ca= .agg #[.int .i64 N2.at_,.string N2.method,.string N2.host,.string N2.path,.string N2.query,.string N2.from_,.slice Aa na' ca,.string N2.body]:=rfl
 rw [hrv]
 have hbc:=Blk.new wa 33 #[.int .i64 N2.at_,.string N2.method,.string N2.host,.string N2.path,.string N2.query,.string N2.from_,.slice Aa na' ca,.string N2.body]
 have hmc:New wa (wa.alloc (.cells #[.int .i64 N2.at_,.string N2.method,.string N2.host,.string N2.path,.string N2.query,.string N2.from_,.slice Aa na' ca,.string N2.body] 33)):=(Mod.refl _ _).alloc _
 have HN3:=hId (HN2.out.new hmc)
 have Hb:=hId (Ha.out.new hmc)
 clear HN2 Ha
 go_upto_region 7 with(fail)
 have HBrq:=hId (HBr.out.new2 hmc)
 have HBqq:=hId (HBq.out.new2 hmc)
 have HB7q:=hId (HB7.out.new2 hmc)
 have HMq:=hId (HM.out.trans hmc)
 clear HBr HBq HB7 HM
 have HBr:=HBrq
 have HBq:=HBqq
 have HB7:=HB7q
 have HM:=HMq
 clear HBrq HBqq HB7q HMq
 have HBc:=hId hbc
 clear hbc hmc
 generalize wa.alloc (.cells #[.int .i64 N2.at_,.string N2.method,.string N2.host,.string N2.path,.string N2.query,.string N2.from_,.slice Aa na' ca,.string N2.body] 33)=wb at *
 generalize wa.heap.size=cb at *
 have hor:=fun W (g:Nat) (hg:Blk W g 37 #[.int .i64 F,.int .i64 ne])=>cmpOr_any [F,ne] g 2 W hg rfl (by omega)
 have hoe:orL [F,ne]=if F=0 then(if ne=0 then 0 else ne) else F:=rfl
 rw [hoe]at hor
 have hbo:=Blk.new wb 37 #[.int .i64 F,.int .i64 ne]
 have hmo:New wb (wb.alloc (.cells #[.int .i64 F,.int .i64 ne] 37)):=(Mod.refl _ _).alloc _
 have q:=hor _ _ hbo
 clear hor hoe
 generalize hOR:(if F=0 then(if ne=0 then 0 else ne) else F)=OR at q
 have HOR:=hId hOR
 clear hOR
 go_wp2_with fail
 refine q.mono ?_
 clear q
 rintro e w' ⟨rfl,rfl⟩
 have HBrq:=hId (HBr.out.new2 hmo)
 have HBqq:=hId (HBq.out.new2 hmo)
 have HB7q:=hId (HB7.out.new2 hmo)
 have HBcq:=hId (HBc.out.new2 hmo)
 have HMq:=hId (HM.out.trans hmo)
 clear HBr HBq HB7 HBc HM
 have HBr:=HBrq
 have HBq:=HBqq
 have HB7:=HB7q
 have HBc:=HBcq
 have HM:=HMq
 clear HBrq HBqq HB7q HBcq HMq
 have HN4:=hId (HN3.out.new hmo)
 have Hc:=hId (Hb.out.new hmo)
 clear HN3 Hb hbo hmo
 generalize wb.alloc (.cells #[.int .i64 F,.int .i64 ne] 37)=wc at *
 have HVZ:Hid (w4.heap.size≤wc.heap.size):=hId HM.out.size
 have HV7:Hid (b7<wc.heap.size):=hId HB7.out.lt
 have hbv:=Blk.new wc 33 zReq
 have hmv:New wc (wc.alloc (.cells zReq 33)):=(Mod.refl _ _).alloc _
 go_upto_region 9 with(fail)
 have HBrq:=hId (HBr.out.new2 hmv)
 have HBqq:=hId (HBq.out.new2 hmv)
 have HB7q:=hId (HB7.out.new2 hmv)
 have HBcq:=hId (HBc.out.new2 hmv)
 have HMq:=hId (HM.out.trans hmv)
 clear HBr HBq HB7 HBc HM
 have HBr:=HBrq
 have HBq:=HBqq
 have HB7:=HB7q
 have HBc:=HBcq
 have HM:=HMq
 clear HBrq HBqq HB7q HBcq HMq
 have HN5:=hId (HN4.out.new hmv)
 have Hd:=hId (Hc.out.new hmv)
 have HBv:=hId hbv
 clear HN4 Hc hbv hmv
 generalize wc.alloc (.cells zReq 33)=wd at *
 generalize wc.heap.size=vb at *
 have HR0:Hid (OR=0→F=0∧ne=0):=hId (fun e=>by
  have h1:=HOR.out
  rw [e]at h1
  by_cases hF:F=0
  ·rw [if_pos hF]at h1
   by_cases hn:ne=0
   ·exact⟨hF,hn⟩
   ·rw [if_neg hn]at h1;exact absurd h1 hn
  ·rw [if_neg hF]at h1;exact absurd h1 hF)
 have HR1:Hid (OR≠0→(re,(⟨r0,r1,r2,r3,r4,r5,r6,r7⟩:ReqL))=(OR,zReqL)):=hId (fun e=>by
  have h1:=HOR.out
  rw [HRE.out]
  by_cases hF:F=0
  ·rw [if_pos hF]at h1
   rw [if_neg (by simp [hF])]
   by_cases hn:ne=0
   ·rw [if_pos hn]at h1;exact absurd h1.symm e
   ·rw [if_neg hn]at h1;rw [if_pos hn,h1]
  ·rw [if_neg hF]at h1;rw [if_pos hF,h1])
 have HR2:Hid (OR=0→(re,(⟨r0,r1,r2,r3,r4,r5,r6,r7⟩:ReqL))=sentOf r N2):=hId (fun e=>by
  rw [HRE.out,if_neg (by simp [(HR0.out e).1]),if_neg (by simp [(HR0.out e).2])])
 have HR6:Hid (r6.length≤60):=hId (by
  by_cases e:OR=0
  ·have h1:=HR2.out e
   have h2:=sentOf_heads r N2
   rw [← h1]at h2
   simp only at h2
   have h3:=HNL.out (HR0.out e).2
   have h4:=HLS.out
   omega
  ·have h1:=HR1.out e
   injection h1 with _ h1
   injection h1 with _ _ _ _ _ _ h1 _
   rw [h1]
   exact Nat.zero_le _)
 clear HRE HOR HNL HLS
 go_upto_if 53 with(fail)
 go_cut [14] (fun s14 wx=>s14= .int .i64 re∧∃(B:Option Addr) (m d:Nat),Hid (Blk wx vb 33 #[.int .i64 r0,.string r1,.string r2,.string r3,.string r4,.string r5,.slice B m d,.string r7])∧Hid (HSl wx B m r6)∧Hid (Blk wx b7 33 #[.int .i64 r0,.string r1,.string r2,.string r3,.string r4,.string r5,.slice A6 n6 c6,.string r7])∧Hid (HSl wx A6 n6 r6)∧Hid (Blk wx rb 29 #[.string key,.slice ha hn' hc,.string pth,.slice ma mn mc,.slice na nn nc,.string dst])∧Hid (New w4 wx))
 case first=>
  by_cases h0:OR=0
  ·subst h0
   obtain⟨hF,hne⟩:=HR0.out rfl
   have hsent:=HR2.out rfl
   have q:=HRO.out wd HM.out hne Aa na' ca HN5.out
   rw [← hsent]at q
   clear HR0 HR1 HR2 HRO hF hne hsent
   rw [hrv]at q
   have x0:=HBr.out.cell 0
   have x1:=HBr.out.cell 1
   have x2:=HBr.out.cell 2
   have x3:=HBr.out.cell 3
   have x4:=HBr.out.cell 4
   have x5:=HBr.out.cell 5
   have xl:=HBr.out.lt
   simp only [lqt,lqz,lqs]at x0 x1 x2 x3 x4 x5
   have k0:=HBc.out.cell 0
   have k1:=HBc.out.cell 1
   have k2:=HBc.out.cell 2
   have k3:=HBc.out.cell 3
   have k4:=HBc.out.cell 4
   have k5:=HBc.out.cell 5
   have k6:=HBc.out.cell 6
   have k7:=HBc.out.cell 7
   have kl:=HBc.out.lt
   simp only [lqt,lqz,lqs]at k0 k1 k2 k3 k4 k5 k6 k7
   have vfr:=HBv.out.frozen
   have vlt:=HBv.out.lt
   have vcl:=HBv.out.cell
   go_wp2_with fail
   refine q.mono ?_
   clear q x0 x1 x2 x3 x4 x5 xl k0 k1 k2 k3 k4 k5 k6 k7 kl vfr vlt vcl
   rintro e we ⟨Ae,me',ce,rfl,hse,m⟩
   have HBr1:=hId (HBr.out.new2 m)
   have HB71:=hId (HB7.out.new2 m)
   have HBv1:=hId (HBv.out.new2 m)
   have HA1:=hId (Hd.out.new m)
   have HM1:=hId (HM.out.trans m)
   have HS1:=hId hse
   clear HBr HBq HB7 HBc HBv Hd HM m hse HN5
   simp only [reqV]at HS1 ⊢
   have vfr:=HBv1.out.frozen
   have vlt:=HBv1.out.lt
   have vcl:=HBv1.out.cell
   go_wp2_with fail
   clear vfr vlt vcl
   have HMS:Hid (Mod (fun k=>k=vb) we ((((((((we.setCell ⟨vb,0,none⟩ (.int .i64 r0)).setCell ⟨vb,1,none⟩ (.string r1)).setCell ⟨vb,2,none⟩ (.string r2)).setCell ⟨vb,3,none⟩ (.string r3)).setCell ⟨vb,4,none⟩ (.string r4)).setCell ⟨vb,5,none⟩ (.string r5)).setCell ⟨vb,6,none⟩ (.slice Ae me' ce)).setCell ⟨vb,7,none⟩ (.string r7))):=hId (Mod.set8 vb we _ _ _ _ _ _ _ _)
   have HBv3:=hId ((((((((HBv1.out.set 0 (.int .i64 r0)).set 1 (.string r1)).set 2 (.string r2)).set 3 (.string r3)).set 4 (.string r4)).set 5 (.string r5)).set 6 (.slice Ae me' ce)).set 7 (.string r7))
   simp only [Array.setIfInBounds,List.size_toArray,List.length_cons,List.length_nil,Nat.reduceAdd,Nat.reduceLT,↓reduceDIte,List.set_toArray,lsz,lss]at HBv3
   have HB73:=hId (HB71.out.mod HMS.out (fun e=>by have:=HV7.out;omega))
   have HBr3:=hId (HBr1.out.mod HMS.out (fun e=>HBr1.out.tb.ne HBv1.out.tb (by decide) e))
   have HA3:=hId (HA1.out.mod HMS.out (fun g hg e=>hg.ne HBv1.out.tb (by decide) e))
   have HS3:=hId (HS1.out.mod HMS.out (fun g hg e=>hg.ne HBv1.out.tb (by decide) e))
   have HM3:=hId (HM1.out.step HMS.out (fun i hi e=>by have:=HVZ.out;omega))
   clear HBr1 HB71 HBv1 HA1 HM1 HS1 HMS
   go_meet
   case rel=>exact⟨rfl,Ae,me',ce,HBv3,HS3,HB73,HA3,HBr3,HM3⟩
  ·have hre:=HR1.out h0
   have h0b:(OR == 0)=false:=by simpa using h0
   injection hre with e1 e2
   injection e2 with e3 e4 e5 e6 e7 e8 e9 e10
   subst e1 e3 e4 e5 e6 e7 e8 e9 e10
   clear HR0 HR1 HR2 HRO h0
   go_wp2_with fail
   go_meet
   case rel=>exact⟨rfl,none,0,0,HBv,hId Sl.nil,HB7,Hd,HBr,HM⟩
 case rest=>
  rename World=>wx
  obtain⟨rfl,B,m,dd,HBv2,HSB,HB72,HSA,HBr2,HM2⟩:=hcut
  clear HBr HBq HB7 HBc HBv Hd HM HN5 HR0 HR1 HR2 HRO HVZ HV7
  have hqq:((re:Int) != re)=false:=by simp
  have q:=same_request ⟨r0,r1,r2,r3,r4,r5,r6,r7⟩ A6 B n6 m c6 dd wx HSA.out HSB.out (by have:=HSA.out.1;have:=HR6.out;omega)
  simp only [reqV]at q
  have y0:=HB72.out.cell 0
  have y1:=HB72.out.cell 1
  have y2:=HB72.out.cell 2
  have y3:=HB72.out.cell 3
  have y4:=HB72.out.cell 4
  have y5:=HB72.out.cell 5
  have y6:=HB72.out.cell 6
  have y7:=HB72.out.cell 7
  have yl:=HB72.out.lt
  simp only [lqt,lqz,lqs]at y0 y1 y2 y3 y4 y5 y6 y7
  have v0:=HBv2.out.cell 0
  have v1:=HBv2.out.cell 1
  have v2:=HBv2.out.cell 2
  have v3:=HBv2.out.cell 3
  have v4:=HBv2.out.cell 4
  have v5:=HBv2.out.cell 5
  have v6:=HBv2.out.cell 6
  have v7:=HBv2.out.cell 7
  have vl:=HBv2.out.lt
  simp only [lqt,lqz,lqs]at v0 v1 v2 v3 v4 v5 v6 v7
  go_wp2_with fail
  refine q.mono ?_
  clear q y0 y1 y2 y3 y4 y5 y6 y7 yl v0 v1 v2 v3 v4 v5 v6 v7 vl
  rintro e wy ⟨rfl,my⟩
  have HBr4:=hId (HBr2.out.new2 my)
  have HM4:=hId (HM2.out.trans my)
  clear HBr2 HB72 HBv2 HSA HSB HM2 my hqq
  by_cases hF:F=0
  ·subst hF
   have hk1:backOf r p=(ke,kt):=by have:=HK.out;rwa [if_neg (by simp)]at this
   have q:=HBO.out wy HM4.out rfl
   rw [hk1]at q
   unfold RTxt at q
   simp only at q
   rw [HKT.out]at q
   have e1:((ke:Int) == ke)=true:=by simp
   have e2:(KT.toList == KT.toList)=true:=by simp
   clear HBO HK HKT hk1
   have x0:=HBr4.out.cell 0
   have x1:=HBr4.out.cell 1
   have x2:=HBr4.out.cell 2
   have x3:=HBr4.out.cell 3
   have x4:=HBr4.out.cell 4
   have x5:=HBr4.out.cell 5
   have xl:=HBr4.out.lt
   simp only [lqt,lqz,lqs]at x0 x1 x2 x3 x4 x5
   go_wp2_with fail
   refine q.mono ?_
   clear q x0 x1 x2 x3 x4 x5 xl
   rintro e wz ⟨rfl,mz⟩
   have HM5:=hId (HM4.out.trans mz)
   clear HM4 HBr4 mz
   go_wp2_with fail
   refine(routed_true _ (HX.out.new HM5.out)).mono ?_
   rintro e wt ⟨rfl,mt⟩
   have HM6:=hId (HM5.out.trans mt)
   clear HM5 mt
   go_wp2_with fail
   go_ret
   exact⟨rfl,HN.out _ _ (HT4.out.new HM6.out)⟩
  ·have hk1:(F,([]:List UInt8))=(ke,kt):=by have:=HK.out;rwa [if_pos hF]at this
   injection hk1 with k1 k2
   subst k1 k2
   have hKT:KT=⟨#[]⟩:=HKT.out.symm
   subst hKT
   have e1:((F:Int) == F)=true:=by simp
   have e2:((⟨#[]⟩:ByteArray).toList == (⟨#[]⟩:ByteArray).toList)=true:=by simp
   have e3:((F:Int) == 0)=false:=by simpa using hF
   have e4:((⟨#[]⟩:ByteArray).toList.isEmpty)=true:=by rw [emp_is];simp
   clear HBO HK HKT hF
   go_wp2_with fail
   refine(routed_true _ (HX.out.new HM4.out)).mono ?_
   rintro e wt ⟨rfl,mt⟩
   have HM6:=hId (HM4.out.trans mt)
   clear HM4 mt
   go_wp2_with fail
   go_ret
   exact⟨rfl,HN.out _ _ (HT4.out.new HM6.out)⟩
end Go.Proofs.YtnlloaimplgjnaaGreatDoor
