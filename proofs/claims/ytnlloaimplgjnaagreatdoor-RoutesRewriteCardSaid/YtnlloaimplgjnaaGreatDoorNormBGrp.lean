/- Several texts in one. (1) How large a request's normal form is; a right route's template is right. No program in sight. No conditions. (2) The program's check of routes (readyAll, CheckRoutes). Conditions: routes of modest size; the library's variable on searching is an int. (3) A template's parameters bear each name once: the program's test of To and the reference's are one. The plain law. No conditions. (4) A text that is empty, as the walk's tests have it. No program in sight. No conditions. (5) A request as a route sends it on: the program's (route.Rewrite). Conditions: a route and a request as the makers hand them out; the library's variable on searching is an int. (6) How a route's hosts suit a host: the reference's number. Conditions: texts of modest size. (7) The headers that a route needs, all of them: the reference's test. Conditions: texts of modest size. -/
import Derived.Test.YtnlloaimplgjnaaGreatDoorRtLawGrp
import Derived.Test.YtnlloaimplgjnaaGreatDoorBuildGrp
import Derived.Test.YtnlloaimplgjnaaGreatDoorAskGrp
import Derived.Test.YtnlloaimplgjnaaGreatDoorTpl2Grp
import Derived.Test.YtnlloaimplgjnaaGreatDoorMatchOfGrp
import Derived.Test.YtnlloaimplgjnaaGreatDoorRtNeedGrp
import Derived.Test.YtnlloaimplgjnaaGreatDoorChgLawGrp
import Derived.Test.YtnlloaimplgjnaaGreatDoorRdyFGrp
import Derived.Test.YtnlloaimplgjnaaGreatDoorNrm0Grp
namespace Go.Proofs.YtnlloaimplgjnaaGreatDoor
open Go.RowKit
set_option linter.unusedVariables false
set_option linter.unusedSimpArgs false
theorem lowA_len (l:List UInt8):(Lib.toLowerA l).length=l.length:=by simp [Lib.toLowerA]
theorem hostN_len (l:List UInt8):(hostN l).length≤l.length:=by
 unfold hostN
 split
 ·rw [lowA_len]
  exact(cutL_le 58 l).1
 ·rw [lowA_len]
  exact Nat.le_refl _
theorem normOf_is {D:ReqL} (h:(normOf D).1=0):(normOf D).2.host.size≤D.host.size∧(normOf D).2.heads.length=D.heads.length∧(normOf D).2.path.size≤3002:=by
 refine⟨?_,?_,normOf_path h⟩
 ·have e:normOf D=if reqF D≠0 then(reqF D,zReqL) else if (pathN D.path).1≠0 then((pathN D.path).1,zReqL) else
   if (queryOf D.query).1≠0 then((queryOf D.query).1,zReqL) else
   if (queryT (sortQ (queryOf D.query).2)).1≠0 then((queryT (sortQ (queryOf D.query).2)).1,zReqL) else
   (0,{D with method:=upS D.method,host:=⟨(hostN D.host.data.toList).toArray⟩,path:=⟨(pathN D.path).2.toArray⟩,query:=⟨(queryT (sortQ (queryOf D.query).2)).2.toArray⟩,heads:=lowH D.heads}):=rfl
  rw [e]at h ⊢
  by_cases g0:reqF D≠0
  ·rw [if_pos g0]at h;exact absurd h g0
  rw [if_neg g0]at h ⊢
  by_cases g1:(pathN D.path).1≠0
  ·rw [if_pos g1]at h;exact absurd h g1
  rw [if_neg g1]at h ⊢
  by_cases g2:(queryOf D.query).1≠0
  ·rw [if_pos g2]at h;exact absurd h g2
  rw [if_neg g2]at h ⊢
  by_cases g3:(queryT (sortQ (queryOf D.query).2)).1≠0
  ·rw [if_pos g3]at h;exact absurd h g3
  rw [if_neg g3]
  show(List.toArray _).size≤_
  rw [List.size_toArray]
  exact hostN_len _
 ·have e:normOf D=if reqF D≠0 then(reqF D,zReqL) else if (pathN D.path).1≠0 then((pathN D.path).1,zReqL) else
   if (queryOf D.query).1≠0 then((queryOf D.query).1,zReqL) else
   if (queryT (sortQ (queryOf D.query).2)).1≠0 then((queryT (sortQ (queryOf D.query).2)).1,zReqL) else
   (0,{D with method:=upS D.method,host:=⟨(hostN D.host.data.toList).toArray⟩,path:=⟨(pathN D.path).2.toArray⟩,query:=⟨(queryT (sortQ (queryOf D.query).2)).2.toArray⟩,heads:=lowH D.heads}):=rfl
  rw [e]at h ⊢
  by_cases g0:reqF D≠0
  ·rw [if_pos g0]at h;exact absurd h g0
  rw [if_neg g0]at h ⊢
  by_cases g1:(pathN D.path).1≠0
  ·rw [if_pos g1]at h;exact absurd h g1
  rw [if_neg g1]at h ⊢
  by_cases g2:(queryOf D.query).1≠0
  ·rw [if_pos g2]at h;exact absurd h g2
  rw [if_neg g2]at h ⊢
  by_cases g3:(queryT (sortQ (queryOf D.query).2)).1≠0
  ·rw [if_pos g3]at h;exact absurd h g3
  rw [if_neg g3]
  show(lowH D.heads).length=_
  exact List.length_map _
theorem routeF_path {r:RtD} (h:routeF r=0):(tplOf r.path).1=0∧(r.dest≠⟨#[]⟩→(tplOf r.dest).1=0):=by
 unfold routeF at h
 by_cases g0:(!isKey r.key)=true
 ·rw [if_pos g0]at h;cases h
 rw [if_neg g0]at h
 by_cases g1:hostsF r.hosts≠0
 ·rw [if_pos g1]at h;exact absurd h g1
 rw [if_neg g1]at h
 by_cases g2:(tplOf r.path).1≠0
 ·rw [if_pos g2]at h;exact absurd h g2
 rw [if_neg g2]at h
 by_cases g3:methodsF r.methods≠0
 ·rw [if_pos g3]at h;exact absurd h g3
 rw [if_neg g3]at h
 by_cases g4:needsF r.needs≠0
 ·rw [if_pos g4]at h;exact absurd h g4
 rw [if_neg g4]at h
 refine⟨Decidable.not_not.1 g2,fun hd=>?_⟩
 rw [if_neg hd]at h
 by_cases g5:(tplOf r.dest).1≠0
 ·rw [if_pos g5]at h;exact absurd h g5
 exact Decidable.not_not.1 g5
def Once (P:List PartD):Prop:=P.Pairwise fun a b=>a.kind≠1→b.kind≠1→a.name≠b.name
theorem partOf_once {x:ByteArray} {before:List PartD} {last:Bool} (h:(partOf x before last).1=0):(partOf x before last).2.kind≠1→hasP before (partOf x before last).2.name=false:=by
 unfold partOf at h ⊢
 split at h
 ·rename_i h1
  rw [if_pos h1]
  split at h
  ·cases h
  ·rename_i h2
   rw [if_neg h2]
   simp only at h ⊢
   split at h
   ·cases h
   ·rename_i h3
    rw [if_neg h3]
    split at h
    ·cases h
    ·rename_i h4
     rw [if_neg h4]
     split at h
     ·cases h
     ·rename_i h5
      rw [if_neg h5]
      intro _
      simpa using h4
 ·rename_i h1
  rw [if_neg h1]
  split at h
  ·cases h
  ·rename_i h2
   rw [if_neg h2]
   intro hk
   exfalso
   apply hk
   revert h
   cases decL x.data.toList with
   | none=>intro h;cases h
   | some o=>
    intro h
    simp only at h ⊢
    split at h
    ·cases h
    ·rename_i h3
     rw [if_neg h3]
theorem once_snoc {l:List PartD} {p:PartD} (h:Once l) (hp:p.kind≠1→hasP l p.name=false):Once (l++ [p]):=by
 unfold Once
 rw [List.pairwise_append]
 refine⟨h,List.pairwise_singleton _ _,fun a ha b hb k1 k2 e=>?_⟩
 obtain rfl:=List.mem_singleton.1 hb
 have h1:=hp k2
 unfold hasP at h1
 rw [List.any_eq_false]at h1
 have h2:=h1 a ha
 simp [k1,e]at h2
theorem partsOf_once:∀(xs:List ByteArray) (acc:List PartD),Once acc→Once (partsOf xs acc).2
 | [],acc,h=>h
 | x::xs,acc,h=>by
  rw [partsOf]
  split
  ·exact List.Pairwise.nil
  ·rename_i h1
   exact partsOf_once xs _ (once_snoc h (partOf_once (Decidable.not_not.1 h1)))
theorem tplOf_once (s:ByteArray):Once (tplOf s).2:=by
 unfold tplOf
 split
 ·exact List.Pairwise.nil
 ·split
  ·exact List.Pairwise.nil
  ·unfold templateOf
   split
   ·exact List.Pairwise.nil
   ·split
    ·exact List.Pairwise.nil
    ·exact partsOf_once _ _ List.Pairwise.nil
theorem once_eq:∀ {P:List PartD},Once P→∀ a∈P,∀ b∈P,a.kind≠1→b.kind≠1→a.name=b.name→a=b
 | [],_,a,ha,_,_,_,_,_=>by cases ha
 | p::P,h,a,ha,b,hb,ka,kb,e=>by
  have h1:=List.pairwise_cons.1 h
  rcases List.mem_cons.1 ha with ea | ha2
  ·rcases List.mem_cons.1 hb with eb | hb2
   ·rw [ea,eb]
   ·subst ea
    exact absurd e (h1.1 b hb2 ka kb)
  ·rcases List.mem_cons.1 hb with eb | hb2
   ·subst eb
    exact absurd e.symm (h1.1 a ha2 kb ka)
   ·exact once_eq h1.2 a ha2 b hb2 ka kb e
theorem other_eq {P:List PartD} (h:Once P) {p:PartD} (hp:hasP P p.name=true):otherK P p=decide (kindAt P p.name≠p.kind):=by
 unfold hasP at hp
 obtain⟨i,hi,-,e2⟩:=firstP_find (isPar p.name) P hp
 obtain⟨q1,-⟩:=List.find?_eq_some_iff_getElem.1 e2
 have hka:kindAt P p.name=P[i].kind:=by unfold kindAt;rw [e2];rfl
 rw [hka]
 unfold isPar at q1
 simp only [Bool.and_eq_true,decide_eq_true_eq]at q1
 unfold otherK
 rw [Bool.eq_iff_iff,List.any_eq_true]
 simp only [Bool.and_eq_true,decide_eq_true_eq]
 constructor
 ·rintro⟨q,hq,k1,n1,k2⟩
  have:=once_eq h q hq P[i] (List.getElem_mem hi) k1 q1.1 (by rw [n1,q1.2])
  rw [← this];exact k2
 ·intro k2
  exact⟨P[i],List.getElem_mem hi,q1.1,q1.2,k2⟩
theorem toFP_eq {P:List PartD} (h:Once P) (T:List PartD):toFP P T=toF P T:=by
 unfold toFP toF
 by_cases ha:toA P T=true
 ·rw [if_pos ha]
  unfold toA at ha
  rw [if_pos ha]
 ·rw [if_neg ha]
  have ha':=ha
  unfold toA at ha'
  rw [if_neg ha']
  have hb:toB P T=T.any (fun p=>decide (p.kind≠1)&&otherK P p):=by
   unfold toB
   rw [Bool.eq_iff_iff,List.any_eq_true,List.any_eq_true]
   have key:∀ p∈T,(decide (p.kind≠1)&&decide (kindAt P p.name≠p.kind))=(decide (p.kind≠1)&&otherK P p):=fun p hp=>by
    by_cases hk:p.kind=1
    ·simp [hk]
    ·have hh:hasP P p.name=true:=by
      have h1:=ha'
      simp only [Bool.not_eq_true,List.any_eq_false]at h1
      have h2:=h1 p hp
      simpa [hk]using h2
     rw [other_eq h hh]
   exact⟨fun ⟨p,hp,e⟩=>⟨p,hp,by rw [← key p hp];exact e⟩,fun⟨p,hp,e⟩=>⟨p,hp,by rw [key p hp];exact e⟩⟩
  rw [hb]
theorem routeFP_eq (r:RtD):routeFP r=routeF r:=routeF_eq (fun _ _=>toFP_eq (tplOf_once _) _)
end Go.Proofs.YtnlloaimplgjnaaGreatDoor
namespace Go.Proofs.YtnlloaimplgjnaaGreatDoor
open Go.RowKit
set_option linter.unusedVariables false
set_option linter.unusedSimpArgs false
theorem emp_is (z:ByteArray):z.toList.isEmpty=decide (z=⟨#[]⟩):=by
 rw [← str_nil,Bool.eq_iff_iff]
 simp
set_option maxRecDepth 100000 in
set_option maxHeartbeats 2000000 in
theorem rt_rewrite (x:RA) (r:RtD) (d:ReqD) (ls:List PairD) (w:World) (h:RtAt w x r) (hr:RtMini r) (hh:HSl w d.ha d.hn ls) (hf:d.Fit ls) (hx:MaxLn w):
  Calls Tryz.prog 8 #[x.val,d.val] w (RNrm (rewriteOf r (d.data ls)) w):=by
 have HRD:=hId (fun W (hm:New w W)=>rt_readyF x r W (h.new hm) hr.short (hx.new hm))
 have HAS:=hId (fun W (hm:New w W)=>rt_askedOf d ls W (hh.new hm) hf (hx.new hm))
 have HBN:=hId (fun e=>normOf_is (D:=d.data ls) e)
 have HDH:Hid ((d.data ls).host.size≤70):=hId hf.z2
 have HDL:Hid ((d.data ls).heads.length≤60):=hId (by have h1:=hf.z7;have h2:=hh.1;show ls.length≤60;omega)
 have HRW:Hid (rewriteOf r (d.data ls)=if routeF r≠0 then(routeF r,zReqL) else if (normOf (d.data ls)).1≠0 then((normOf (d.data ls)).1,zReqL) else sentOf r (normOf (d.data ls)).2):=hId rfl
 have HMX:=hId hx
 have HMI:=hId hr
 have HDS:=hId h.dest
 generalize rewriteOf r (d.data ls)=RES at *
 generalize d.data ls=D at *
 generalize normOf D=N at *
 obtain⟨N1,N2⟩:=N
 unfold RRdyF at HRD
 rw [routeFP_eq]at HRD
 have HRP:=hId (fun e=>routeF_path (r:=r) e)
 generalize routeF r=F at *
 clear h hr hh hf hx
 obtain⟨key,ha,hn',hc,path,ma,mn,mc,na,nn,nc,dest⟩:=x
 obtain⟨at_,me,ho,pa,qu,fr,A,n,c,bo⟩:=d
 simp only [RA.val,ReqD.val]at HDS HRD HAS ⊢
 simp only at HRW HBN
 have hb:=Blk.new w 29 #[.string key,.slice ha hn' hc,.string path,.slice ma mn mc,.slice na nn nc,.string dest]
 have hm:New w (w.alloc (.cells #[.string key,.slice ha hn' hc,.string path,.slice ma mn mc,.slice na nn nc,.string dest] 29)):=(Mod.refl _ _).alloc _
 have hz1:(w.alloc (.cells #[.string key,.slice ha hn' hc,.string path,.slice ma mn mc,.slice na nn nc,.string dest] 29)).heap.size=w.heap.size+1:=by simp
 go_enter Tryz.func8,Tryz.ntmps8
 go_upto_region 1 with(fail)
 generalize w.alloc (.cells #[.string key,.slice ha hn' hc,.string path,.slice ma mn mc,.slice na nn nc,.string dest] 29)=wA at *
 have hy:=Blk.new wA 33 #[.int .i64 at_,.string me,.string ho,.string pa,.string qu,.string fr,.slice A n c,.string bo]
 have hm2:New wA (wA.alloc (.cells #[.int .i64 at_,.string me,.string ho,.string pa,.string qu,.string fr,.slice A n c,.string bo] 33)):=(Mod.refl _ _).alloc _
 have hz2:(wA.alloc (.cells #[.int .i64 at_,.string me,.string ho,.string pa,.string qu,.string fr,.slice A n c,.string bo] 33)).heap.size=wA.heap.size+1:=by simp
 generalize wA.alloc (.cells #[.int .i64 at_,.string me,.string ho,.string pa,.string qu,.string fr,.slice A n c,.string bo] 33)=wB at *
 have hr:=Blk.new wB 33 zReq
 have hm3:New wB (wB.alloc (.cells zReq 33)):=(Mod.refl _ _).alloc _
 have HM:=hId ((hm.trans hm2).trans hm3)
 have HX:=hId ((hb.new2 hm2).new2 hm3)
 have hy2:=hy.new2 hm3
 rw [hz2,hz1]at hr
 rw [hz1]at hy2
 have HY:=hId hy2
 have HR:=hId hr
 clear hb hy hr hm hm2 hm3 hy2
 generalize wB.alloc (.cells zReq 33)=w1 at *
 clear hz1 hz2
 generalize hxb:w.heap.size=xb at *
 generalize hyb:xb+1=yb at *
 generalize hrb:yb+1=rb at *
 have HRB:Hid (w.heap.size≤rb):=hId (by omega)
 have hxy:xb≠yb:=by omega
 have hxr:xb≠rb:=by omega
 have hyr:yb≠rb:=by omega
 clear hxb hyb hrb
 have q:=HRD.out w1 HM.out
 clear HRD
 have x0:=HX.out.cell 0
 have x1:=HX.out.cell 1
 have x2:=HX.out.cell 2
 have x3:=HX.out.cell 3
 have x4:=HX.out.cell 4
 have x5:=HX.out.cell 5
 have xl:=HX.out.lt
 have y0:=HY.out.cell 0
 have y1:=HY.out.cell 1
 have y2:=HY.out.cell 2
 have y3:=HY.out.cell 3
 have y4:=HY.out.cell 4
 have y5:=HY.out.cell 5
 have y6:=HY.out.cell 6
 have y7:=HY.out.cell 7
 have yl:=HY.out.lt
 simp only [lqt,lqz,lqs]at x0 x1 x2 x3 x4 x5 y0 y1 y2 y3 y4 y5 y6 y7
 go_wp2_with fail
 refine q.mono ?_
 clear q
 rintro e w2 ⟨p2,rfl,m2,hp2⟩
 clear x0 x1 x2 x3 x4 x5 xl y0 y1 y2 y3 y4 y5 y6 y7 yl
 have HX1:=hId (HX.out.new2 m2)
 have HY1:=hId (HY.out.new2 m2)
 have HR1:=hId (HR.out.new2 m2)
 have HM1:=hId (HM.out.trans m2)
 clear HX HY HR HM
 have HX:=HX1
 have HY:=HY1
 have HR:=HR1
 have HM:=HM1
 clear HX1 HY1 HR1 HM1
 have x0:=HX.out.cell 0
 have x1:=HX.out.cell 1
 have x2:=HX.out.cell 2
 have x3:=HX.out.cell 3
 have x4:=HX.out.cell 4
 have x5:=HX.out.cell 5
 have xl:=HX.out.lt
 have y0:=HY.out.cell 0
 have y1:=HY.out.cell 1
 have y2:=HY.out.cell 2
 have y3:=HY.out.cell 3
 have y4:=HY.out.cell 4
 have y5:=HY.out.cell 5
 have y6:=HY.out.cell 6
 have y7:=HY.out.cell 7
 have yl:=HY.out.lt
 simp only [lqt,lqz,lqs]at x0 x1 x2 x3 x4 x5 y0 y1 y2 y3 y4 y5 y6 y7
 clear m2
 by_cases g0:F≠0
 ·have g0b:(F != 0)=true:=by simpa using g0
  have HQ:=hId (HRW.out.trans (if_pos g0))
  clear HRW g0 hp2 HAS HBN HDH HDL HMX HMI HDS HRP
  have HFIN:Hid (∀ W',Mod (fun k=>k=rb) w2 W'→RNrm RES w (.returned (.tuple #[reqV zReqL none 0 0,.int .i64 F])) W'):=hId (fun W' hm=>RNrm.fault HQ.out (HM.out.step hm (fun i hi e=>by have h1:=HRB.out;omega)))
  have hcR:=HR.out.cell
  have hfR:=HR.out.frozen
  have rlt:=HR.out.lt
  have HMF:=hId (fun (v0 v1 v2 v3 v4 v5 v6 v7:Value)=>(Mod.set8 rb w2 v0 v1 v2 v3 v4 v5 v6 v7))
  clear HR HX HY HM
  go_wp2_with fail
  refine bodyPost_ret (v:=(.tuple #[reqV zReqL none 0 0,.int .i64 F])) (by simp [results,Tryz.results8,go_sem,hcR,hfR,rlt,reqV,zReqL]) rfl ?_
  exact HFIN.out _ (HMF.out _ _ _ _ _ _ _ _)
 have g0b:(F != 0)=false:=by simpa using g0
 have HRW1:=hId (HRW.out.trans (if_neg g0))
 have g00:F=0:=Decidable.not_not.1 g0
 obtain⟨g,yy,rfl,hgz,hrdy⟩:=hp2 g00
 have HRDY:=hId hrdy
 have HPT:=hId (HRP.out g00).1
 clear HRW g0 hrdy hgz g00 HRP
 have q:=HAS.out w2 HM.out
 have HGZ2:Hid (w.heap.size≤w2.heap.size):=hId HM.out.size
 clear HAS
 go_wp2_with fail
 refine q.mono ?_
 clear q
 rintro e w3 ⟨p3,rfl,m3,hp3⟩
 clear x0 x1 x2 x3 x4 x5 xl y0 y1 y2 y3 y4 y5 y6 y7 yl
 have HX1:=hId (HX.out.new2 m3)
 have HY1:=hId (HY.out.new2 m3)
 have HR1:=hId (HR.out.new2 m3)
 have HM1:=hId (HM.out.trans m3)
 clear HX HY HR HM
 have HX:=HX1
 have HY:=HY1
 have HR:=HR1
 have HM:=HM1
 clear HX1 HY1 HR1 HM1
 have x0:=HX.out.cell 0
 have x1:=HX.out.cell 1
 have x2:=HX.out.cell 2
 have x3:=HX.out.cell 3
 have x4:=HX.out.cell 4
 have x5:=HX.out.cell 5
 have xl:=HX.out.lt
 have y0:=HY.out.cell 0
 have y1:=HY.out.cell 1
 have y2:=HY.out.cell 2
 have y3:=HY.out.cell 3
 have y4:=HY.out.cell 4
 have y5:=HY.out.cell 5
 have y6:=HY.out.cell 6
 have y7:=HY.out.cell 7
 have yl:=HY.out.lt
 simp only [lqt,lqz,lqs]at x0 x1 x2 x3 x4 x5 y0 y1 y2 y3 y4 y5 y6 y7
 have HRDY3:=hId (HRDY.out.new m3)
 clear m3 HRDY
 simp only at hp3
 by_cases g1:N1≠0
 ·have g1b:(N1 != 0)=true:=by simpa using g1
  have HQ:=hId (HRW1.out.trans (if_pos g1))
  clear HRW1 g1 hp3 HBN HDH HDL HMX HMI HDS HRDY3 HPT
  have HFIN:Hid (∀ W',Mod (fun k=>k=rb) w3 W'→RNrm RES w (.returned (.tuple #[reqV zReqL none 0 0,.int .i64 N1])) W'):=hId (fun W' hm=>RNrm.fault HQ.out (HM.out.step hm (fun i hi e=>by have h1:=HRB.out;omega)))
  have hcR:=HR.out.cell
  have hfR:=HR.out.frozen
  have rlt:=HR.out.lt
  have HMF:=hId (fun (v0 v1 v2 v3 v4 v5 v6 v7:Value)=>(Mod.set8 rb w3 v0 v1 v2 v3 v4 v5 v6 v7))
  clear HR HX HY HM
  go_wp2_with fail
  refine bodyPost_ret (v:=(.tuple #[reqV zReqL none 0 0,.int .i64 N1])) (by simp [results,Tryz.results8,go_sem,hcR,hfR,rlt,reqV,zReqL]) rfl ?_
  exact HFIN.out _ (HMF.out _ _ _ _ _ _ _ _)
 have g1b:(N1 != 0)=false:=by simpa using g1
 have HRW2:=hId (HRW1.out.trans (if_neg g1))
 have g10:N1=0:=Decidable.not_not.1 g1
 obtain⟨g2,z,rfl,hgz2,hask⟩:=hp3 g10
 obtain⟨b1,b2,b3⟩:=HBN.out g10
 have HASK:=hId hask
 have HGZ:Hid (w.heap.size≤g2):=hId (Nat.le_trans HGZ2.out hgz2)
 clear HGZ2
 clear HRW1 g1 hp3 hask hgz2 g10 HBN
 have HHB:Hid (N2.host.size≤70):=hId (by have:=HDH.out;omega)
 have HZN:Hid (z.n≤60):=hId (by have:=HDL.out;have:=HASK.out.h.1;omega)
 clear b1 b2 b3 HDH HDL
 have q:=rt_takes g yy r g2 z N2 w3 HRDY3.out HASK.out HPT.out (fun y hy=>by have:=HMI.out.hosts.2 y hy;omega) (by have:=HMI.out.hosts.1;omega) (by have:=HMI.out.needs.1;omega) (by have:=HMI.out.methods.1;omega) (by have:=HHB.out;omega) (by have:=HZN.out;omega)
 have HHS:=hId (fun l (e:hitOf r N2=some l)=>hitOf_some e)
 have HSO:Hid (sentOf r N2=match hitOf r N2 with
  | none=>(8,zReqL)
  | some l=>if r.dest=⟨#[]⟩ then(0,N2) else if (buildOf r.dest l).1≠0 then((buildOf r.dest l).1,zReqL) else(0,{N2 with path:=⟨(buildOf r.dest l).2.toArray⟩})):=hId rfl
 rw [HSO.out]at HRW2
 clear HSO HPT HHB
 generalize hitOf r N2=O at *
 go_wp2_with fail
 refine q.mono ?_
 clear q
 rintro e w4 ⟨A4,n4,c4,rfl,hq4,m4,hc4⟩
 clear x0 x1 x2 x3 x4 x5 xl y0 y1 y2 y3 y4 y5 y6 y7 yl
 have HX1:=hId (HX.out.new2 m4)
 have HY1:=hId (HY.out.new2 m4)
 have HR1:=hId (HR.out.new2 m4)
 have HM1:=hId (HM.out.trans m4)
 clear HX HY HR HM
 have HX:=HX1
 have HY:=HY1
 have HR:=HR1
 have HM:=HM1
 clear HX1 HY1 HR1 HM1
 have x0:=HX.out.cell 0
 have x1:=HX.out.cell 1
 have x2:=HX.out.cell 2
 have x3:=HX.out.cell 3
 have x4:=HX.out.cell 4
 have x5:=HX.out.cell 5
 have xl:=HX.out.lt
 have y0:=HY.out.cell 0
 have y1:=HY.out.cell 1
 have y2:=HY.out.cell 2
 have y3:=HY.out.cell 3
 have y4:=HY.out.cell 4
 have y5:=HY.out.cell 5
 have y6:=HY.out.cell 6
 have y7:=HY.out.cell 7
 have yl:=HY.out.lt
 simp only [lqt,lqz,lqs]at x0 x1 x2 x3 x4 x5 y0 y1 y2 y3 y4 y5 y6 y7
 have HASK4:=hId (HASK.out.new m4)
 clear m4 HASK HRDY3
 cases O with
 | none=>
  have HQ:=hId HRW2.out
  simp only at HQ
  clear HRW2 hq4 HASK4 HMX HMI HDS HHS HZN
  simp only [Option.isSome_none]
  have HFIN:Hid (∀ W',Mod (fun k=>k=rb) w4 W'→RNrm RES w (.returned (.tuple #[reqV zReqL none 0 0,.int .i64 8])) W'):=hId (fun W' hm=>RNrm.fault HQ.out (HM.out.step hm (fun i hi e=>by have h1:=HRB.out;omega)))
  have hcR:=HR.out.cell
  have hfR:=HR.out.frozen
  have rlt:=HR.out.lt
  have HMF:=hId (fun (v0 v1 v2 v3 v4 v5 v6 v7:Value)=>(Mod.set8 rb w4 v0 v1 v2 v3 v4 v5 v6 v7))
  clear HR HX HY HM
  go_wp2_with fail
  refine bodyPost_ret (v:=(.tuple #[reqV zReqL none 0 0,.int .i64 8])) (by simp [results,Tryz.results8,go_sem,hcR,hfR,rlt,reqV,zReqL]) rfl ?_
  exact HFIN.out _ (HMF.out _ _ _ _ _ _ _ _)
 | some l=>
  have HS1:=hId HRW2.out
  simp only at HS1
  clear HRW2
  simp only [Option.isSome_some]
  have HQL:=hId (hq4 l rfl)
  clear hq4
  have HH:=hId HASK4.out.h
  have HAB:=hId HASK4.out.b
  clear HASK4
  obtain⟨zA,zn,zc,zS,zm,zk⟩:=z
  obtain⟨q0,q1,q2,q3,q4,q5,q6,q7⟩:=N2
  unfold askCells at HAB
  simp only at HH HAB HS1 HZN
  generalize decide ((segsOf q3).1≠0)=BAD at *
  rw [← HDS.out]at HS1
  have d1:=str_nil dest
  have d2:=emp_is dest
  by_cases hd:dest=⟨#[]⟩
  ·have HQ:=hId (HS1.out.trans (if_pos hd))
   rw [decide_eq_true hd]at d1 d2
   clear HS1 hd HMX HMI HDS HHS HQL HZN
   have HFIN:Hid (∀ W',Mod (fun k=>k=rb) w4 W'→RNrm RES w (.returned (.tuple #[reqV ⟨q0,q1,q2,q3,q4,q5,q6,q7⟩ zA zn zc,.int .i64 0])) W'):=hId (fun W' hm=>⟨zA,zn,zc,by rw [HQ.out],by rw [HQ.out];exact HH.out.mod hm (fun g hg e=>hg.ne HR.out.tb (by decide) e),HM.out.step hm (fun i hi e=>by have h1:=HRB.out;omega)⟩)
   have a0:=HAB.out.cell 0
   have a1:=HAB.out.cell 1
   have a2:=HAB.out.cell 2
   have a3:=HAB.out.cell 3
   have a4:=HAB.out.cell 4
   have a5:=HAB.out.cell 5
   have a6:=HAB.out.cell 6
   have a7:=HAB.out.cell 7
   have al:=HAB.out.lt
   simp only [lqt,lqz,lqs]at a0 a1 a2 a3 a4 a5 a6 a7
   have hgr:g2≠rb:=fun e=>HAB.out.tb.ne HR.out.tb (by decide) e
   clear HAB HH
   have hcR:=HR.out.cell
   have hfR:=HR.out.frozen
   have rlt:=HR.out.lt
   have HMF:=hId (fun (v0 v1 v2 v3 v4 v5 v6 v7:Value)=>(Mod.set8 rb w4 v0 v1 v2 v3 v4 v5 v6 v7))
   clear HR HX HY HM
   go_wp2_with fail
   refine bodyPost_ret (v:=(.tuple #[reqV ⟨q0,q1,q2,q3,q4,q5,q6,q7⟩ zA zn zc,.int .i64 0])) (by simp [results,Tryz.results8,go_sem,hcR,hfR,rlt,reqV,zReqL]) rfl ?_
   exact HFIN.out _ (HMF.out _ _ _ _ _ _ _ _)
  have HS2:=hId (HS1.out.trans (if_neg hd))
  rw [decide_eq_false hd]at d1 d2
  clear HS1 hd
  have hbt:=route_BuildT dest A4 n4 c4 l w4 (by have:=HMI.out.dest;rw [HDS.out];omega) HQL.out (by have:=(HHS.out l rfl).1;have:=HQL.out.1;omega) hc4 (HHS.out l rfl).2 (HMX.out.new HM.out)
  clear HHS HMX HMI HDS
  generalize buildOf dest l=B at *
  obtain⟨be,bt⟩:=B
  unfold RTxt at hbt
  simp only at hbt HS2
  generalize (⟨bt.toArray⟩:ByteArray)=BT at *
  have q1z:=hbt
  clear hbt
  go_wp2_with fail
  refine q1z.mono ?_
  clear q1z
  rintro e w5 ⟨rfl,m5⟩
  clear x0 x1 x2 x3 x4 x5 xl y0 y1 y2 y3 y4 y5 y6 y7 yl
  have HX1:=hId (HX.out.new2 m5)
  have HY1:=hId (HY.out.new2 m5)
  have HR1:=hId (HR.out.new2 m5)
  have HM1:=hId (HM.out.trans m5)
  clear HX HY HR HM
  have HX:=HX1
  have HY:=HY1
  have HR:=HR1
  have HM:=HM1
  clear HX1 HY1 HR1 HM1
  have x0:=HX.out.cell 0
  have x1:=HX.out.cell 1
  have x2:=HX.out.cell 2
  have x3:=HX.out.cell 3
  have x4:=HX.out.cell 4
  have x5:=HX.out.cell 5
  have xl:=HX.out.lt
  have y0:=HY.out.cell 0
  have y1:=HY.out.cell 1
  have y2:=HY.out.cell 2
  have y3:=HY.out.cell 3
  have y4:=HY.out.cell 4
  have y5:=HY.out.cell 5
  have y6:=HY.out.cell 6
  have y7:=HY.out.cell 7
  have yl:=HY.out.lt
  simp only [lqt,lqz,lqs]at x0 x1 x2 x3 x4 x5 y0 y1 y2 y3 y4 y5 y6 y7
  have HH5:=hId (HH.out.new m5)
  have HAB5:=hId (HAB.out.new2 m5)
  clear HH HAB m5
  have hafr:=HAB5.out.frozen
  have halt:=HAB5.out.lt
  have hacl:=HAB5.out.cell 3
  simp only [lqt,lqz,lqs]at hacl
  go_upto_region 12 with(fail)
  clear hafr halt hacl
  clear x0 x1 x2 x3 x4 x5 xl y0 y1 y2 y3 y4 y5 y6 y7 yl
  have hax:g2≠xb:=fun e=>HAB5.out.tb.ne HX.out.tb (by decide) e
  have hay:g2≠yb:=fun e=>HAB5.out.tb.ne HY.out.tb (by decide) e
  have har:g2≠rb:=fun e=>HAB5.out.tb.ne HR.out.tb (by decide) e
  have HAB6:=hId (HAB5.out.set 3 (.string BT))
  simp only [Array.setIfInBounds,List.size_toArray,List.length_cons,List.length_nil,Nat.reduceAdd,Nat.reduceLT,↓reduceDIte,List.set_toArray,lsz,lss]at HAB6
  have hms:Mod (fun k=>k=g2) w5 (w5.setCell ⟨g2,3,none⟩ (.string BT)):=Mod.setCell (S:=fun k=>k=g2) (p:=⟨g2,3,none⟩) (Mod.refl _ _) (.inl rfl) _
  have HX1:=hId (HX.out.mod hms (Ne.symm hax))
  have HY1:=hId (HY.out.mod hms (Ne.symm hay))
  have HR1:=hId (HR.out.mod hms (Ne.symm har))
  have HM1:=hId (HM.out.step hms (fun i hi e=>by have:=HGZ.out;omega))
  have HH6:=hId (HH5.out.mod hms (fun g hg e=>hg.ne HAB5.out.tb (by decide) e))
  clear HX HY HR HM HH5 HAB5 hms hax hay har
  generalize w5.setCell ⟨g2,3,none⟩ (.string BT)=w6 at *
  have HX:=HX1
  have HY:=HY1
  have HR:=HR1
  have HM:=HM1
  have HH:=HH6
  have HAB:=HAB6
  clear HX1 HY1 HR1 HM1 HH6 HAB6
  have x0:=HX.out.cell 0
  have x1:=HX.out.cell 1
  have x2:=HX.out.cell 2
  have x3:=HX.out.cell 3
  have x4:=HX.out.cell 4
  have x5:=HX.out.cell 5
  have xl:=HX.out.lt
  have y0:=HY.out.cell 0
  have y1:=HY.out.cell 1
  have y2:=HY.out.cell 2
  have y3:=HY.out.cell 3
  have y4:=HY.out.cell 4
  have y5:=HY.out.cell 5
  have y6:=HY.out.cell 6
  have y7:=HY.out.cell 7
  have yl:=HY.out.lt
  simp only [lqt,lqz,lqs]at x0 x1 x2 x3 x4 x5 y0 y1 y2 y3 y4 y5 y6 y7
  by_cases hbe:be≠0
  ·have hb2:(be != 0)=true:=by simpa using hbe
   have HQ:=hId (HS2.out.trans (if_pos hbe))
   clear HS2 hbe HAB HH
   have HFIN:Hid (∀ W',Mod (fun k=>k=rb) w6 W'→RNrm RES w (.returned (.tuple #[reqV zReqL none 0 0,.int .i64 be])) W'):=hId (fun W' hm=>RNrm.fault HQ.out (HM.out.step hm (fun i hi e=>by have h1:=HRB.out;omega)))
   have hcR:=HR.out.cell
   have hfR:=HR.out.frozen
   have rlt:=HR.out.lt
   have HMF:=hId (fun (v0 v1 v2 v3 v4 v5 v6 v7:Value)=>(Mod.set8 rb w6 v0 v1 v2 v3 v4 v5 v6 v7))
   clear HR HX HY HM
   go_wp2_with fail
   refine bodyPost_ret (v:=(.tuple #[reqV zReqL none 0 0,.int .i64 be])) (by simp [results,Tryz.results8,go_sem,hcR,hfR,rlt,reqV,zReqL]) rfl ?_
   exact HFIN.out _ (HMF.out _ _ _ _ _ _ _ _)
  have hb2:(be != 0)=false:=by simpa using hbe
  have HQ:=hId (HS2.out.trans (if_neg hbe))
  clear HS2 hbe
  have HFIN:Hid (∀ W',Mod (fun k=>k=rb) w6 W'→RNrm RES w (.returned (.tuple #[reqV ⟨q0,q1,q2,BT,q4,q5,q6,q7⟩ zA zn zc,.int .i64 0])) W'):=hId (fun W' hm=>⟨zA,zn,zc,by rw [HQ.out],by rw [HQ.out];exact HH.out.mod hm (fun g hg e=>hg.ne HR.out.tb (by decide) e),HM.out.step hm (fun i hi e=>by have h1:=HRB.out;omega)⟩)
  have a0:=HAB.out.cell 0
  have a1:=HAB.out.cell 1
  have a2:=HAB.out.cell 2
  have a3:=HAB.out.cell 3
  have a4:=HAB.out.cell 4
  have a5:=HAB.out.cell 5
  have a6:=HAB.out.cell 6
  have a7:=HAB.out.cell 7
  have al:=HAB.out.lt
  simp only [lqt,lqz,lqs]at a0 a1 a2 a3 a4 a5 a6 a7
  have hgr:g2≠rb:=fun e=>HAB.out.tb.ne HR.out.tb (by decide) e
  clear HAB HH
  have hcR:=HR.out.cell
  have hfR:=HR.out.frozen
  have rlt:=HR.out.lt
  have HMF:=hId (fun (v0 v1 v2 v3 v4 v5 v6 v7:Value)=>(Mod.set8 rb w6 v0 v1 v2 v3 v4 v5 v6 v7))
  clear HR HX HY HM
  go_wp2_with fail
  refine bodyPost_ret (v:=(.tuple #[reqV ⟨q0,q1,q2,BT,q4,q5,q6,q7⟩ zA zn zc,.int .i64 0])) (by simp [results,Tryz.results8,go_sem,hcR,hfR,rlt,reqV,zReqL]) rfl ?_
  exact HFIN.out _ (HMF.out _ _ _ _ _ _ _ _)
theorem fold_take {host:ByteArray} {l:List ByteArray} {k:Nat} (h:k<l.length) (b:Nat):(l.take (k+1)).foldl (stepN host) b=stepN host ((l.take k).foldl (stepN host) b) l[k]:=by
 rw [List.take_succ_eq_append_getElem h,List.foldl_append]
 rfl
theorem fold_bound {host:ByteArray} {Z:Nat}:∀(l:List ByteArray) (b:Nat),(∀ h∈l,h.size≤Z)→b≤1048576+Z→l.foldl (stepN host) b≤1048577+Z
 | [],b,_,h=>by simp;omega
 | x::l,b,hz,h=>by
  rw [List.foldl_cons]
  have hx:=hz x List.mem_cons_self
  by_cases e:stepN host b x≤1048576+Z
  ·exact fold_bound l _ (fun y hy=>hz y (List.mem_cons_of_mem _ hy)) e
  ·exfalso
   unfold stepN at e
   split at e
   ·omega
   ·split at e <;> omega
set_option maxRecDepth 100000 in
set_option maxHeartbeats 1500000 in
theorem ref_hostRank (x:RA) (r:RtD) (host:ByteArray) (w:World) (h:RtAt w x r) (hz:∀ y∈r.hosts,y.size≤100000) (hh:host.size≤100000) (hnn:r.hosts.length≤1000):
  Calls Tryz.prog 119 #[x.val,.string host] w fun e w'=>e= .returned (.int .i64 (rankN r.hosts host:Nat))∧New w w':=by
 have HS:=hId h.hosts
 have hl:=h.hosts.1
 obtain⟨key,ha,hn,hc,path,ma,mn,mc,na,nn,nc,dest⟩:=x
 simp only [RA.val]at hl HS ⊢
 have HZ:=hId hz
 have HL:=hId hl
 have hn9:hn≤1000:=by omega
 clear hnn
 generalize r.hosts=hosts at *
 clear h hz hl
 have hb:=Blk.new w 29 #[.string key,.slice ha hn hc,.string path,.slice ma mn mc,.slice na nn nc,.string dest]
 have hm:New w (w.alloc (.cells #[.string key,.slice ha hn hc,.string path,.slice ma mn mc,.slice na nn nc,.string dest] 29)):=(Mod.refl _ _).alloc _
 go_enter Tryz.func119,Tryz.ntmps119
 go_upto_region 1 with(fail)
 have HM:=hId hm
 have HX:=hId hb
 clear hb hm
 generalize w.alloc (.cells #[.string key,.slice ha hn hc,.string path,.slice ma mn mc,.slice na nn nc,.string dest] 29)=w1 at *
 generalize w.heap.size=xb at *
 have e1:=HX.out.cell 1
 have el:=HX.out.lt
 simp only [lqt,lqz,lqs]at e1
 by_cases h0:hn=0
 ·subst h0
  have he:hosts= []:=List.eq_nil_of_length_eq_zero HL.out
  have HQ:Hid (rankN hosts host=1):=hId (by unfold rankN;rw [if_pos he])
  go_wp2_with fail
  go_loopw [5,17] (fun b i wr=>b= .int .i64 1∧i= .int .i64 0∧Hid (New w1 wr)) (fun _ _ _=>0)
  case atStart=>exact⟨rfl,rfl,hId (Mod.refl _ _)⟩
  case round=>
   rename World=>wr
   obtain⟨rfl,rfl,HN⟩:=hrel
   go_wp2_with fail
   go_ret
   exact⟨by rw [HQ.out];rfl,HM.out.trans HN.out⟩
 have h0b:((hn:Int) == 0)=false:=by simpa using h0
 have hne:hosts≠[]:=fun e=>h0 (by rw [← HL.out,e];rfl)
 have HQ:Hid (hosts.foldl (stepN host) 0=rankN hosts host):=hId (rankN_fold host hne (fun y hy=>by have:=HZ.out y hy;omega))
 have HBD:=hId (fun k=>fold_bound (host:=host) (Z:=100000) (hosts.take k) 0 (fun y hy=>HZ.out y (List.mem_of_mem_take hy)) (by omega))
 clear hne h0
 go_wp2_with fail
 go_loopw [5,17] (fun bv i wr=>∃(k b:Nat),k≤hn∧i= .int .i64 k∧bv= .int .i64 (b:Int)∧b≤1148577∧Hid ((hosts.take k).foldl (stepN host) 0=b)∧Hid (New w1 wr)) (fun _ i _=>hn -(intOf i).toNat)
 case atStart=>exact⟨0,0,Nat.zero_le _,rfl,rfl,by omega,hId rfl,hId (Mod.refl _ _)⟩
 case round=>
  rename World=>wr
  obtain⟨k,b,hk,rfl,rfl,hbb,HF,HN⟩:=hrel
  by_cases hlt:k<hn
  ·have hkl:k<hosts.length:=by have:=HL.out;omega
   obtain⟨g1,o1,hA,htb,hc0⟩:=(HS.out.new (HM.out.trans HN.out)).2 (by omega)
   subst hA
   have hgl:=htb.lt
   have a0:=hc0 k hkl 0 (by omega)
   simp only [sEnc,Nat.mul_one,Nat.add_zero]at a0
   have hxz:=HZ.out _ (List.getElem_mem hkl)
   have hstep:=fold_take (host:=host) hkl 0
   rw [HF.out]at hstep
   have hbd:=HBD.out (k+1)
   rw [hstep]at hbd
   have HST:=hId hstep
   clear htb hc0 hstep
   generalize hosts[k]=x at *
   have hb2:(0:Int)≤k:=by omega
   have hb3:(k:Int)<hn:=by omega
   have q1:=Tryz.strings_CutPrefix x ⟨#[42]⟩ wr
   rw [show (⟨#[42]⟩:ByteArray).data.toList= [42] from rfl]at q1
   have HSTN:Hid (stepN host b x=if exactH host x then max b 1048576 else if starM host x then max b (1+x.size) else b):=hId rfl
   have HX1:Hid (exactH host x=(!Lib.hasPrefix x.data.toList [42]&&decide (x=host))):=hId rfl
   have HSM:Hid (starM host x=(Lib.hasPrefix x.data.toList [42]&&Lib.hasSuffix host.data.toList (⟨(Lib.trimPrefix x.data.toList [42]).toArray⟩:ByteArray).data.toList)):=hId rfl
   generalize (⟨(Lib.trimPrefix x.data.toList [42]).toArray⟩:ByteArray)=rest at *
   have q2:=Tryz.strings_HasSuffix host rest wr (by omega)
   generalize Lib.hasSuffix host.data.toList rest.data.toList=SF at *
   have hxe:=ba_beq x host
   generalize hD:decide (x=host)=D at *
   clear hD
   cases hp:Lib.hasPrefix x.data.toList [42]
   ·rw [hp]at q1 HX1 HSM
    clear hp q2
    cases D
    ·have HF1:Hid ((hosts.take (k+1)).foldl (stepN host) 0=b):=hId (by rw [HST.out,HSTN.out,HX1.out,HSM.out];rfl)
     clear HST HSTN HX1 HSM hbd
     go_wp2_with fail
     refine q1.mono ?_
     clear q1
     rintro e w' ⟨rfl,rfl⟩
     go_wp2_with fail
     go_roundw
     case rel=>exact⟨k+1,b,by omega,by go_num,rfl,hbb,HF1,HN⟩
     case measure=>simp [intOf];omega
    ·have HF1:Hid ((hosts.take (k+1)).foldl (stepN host) 0=max b 1048576):=hId (by rw [HST.out,HSTN.out,HX1.out];rfl)
     have hb9:max b 1048576≤1148577:=by omega
     have hbm:max (b:Int) 1048576=((max b 1048576:Nat):Int):=by omega
     clear HST HSTN HX1 HSM hbd
     go_wp2_with fail
     refine q1.mono ?_
     clear q1
     rintro e w' ⟨rfl,rfl⟩
     go_wp2_with fail
     go_roundw
     case rel=>exact⟨k+1,max b 1048576,by omega,by go_num,rfl,hb9,HF1,HN⟩
     case measure=>simp [intOf];omega
   ·rw [hp]at q1 HX1 HSM
    clear hp hxe
    cases SF
    ·have HF1:Hid ((hosts.take (k+1)).foldl (stepN host) 0=b):=hId (by rw [HST.out,HSTN.out,HX1.out,HSM.out];rfl)
     clear HST HSTN HX1 HSM hbd
     go_wp2_with fail
     refine q1.mono ?_
     clear q1
     rintro e w' ⟨rfl,rfl⟩
     go_wp2_with fail
     refine q2.mono ?_
     clear q2
     rintro e w' ⟨rfl,rfl⟩
     go_wp2_with fail
     go_roundw
     case rel=>exact⟨k+1,b,by omega,by go_num,rfl,hbb,HF1,HN⟩
     case measure=>simp [intOf];omega
    ·have HF1:Hid ((hosts.take (k+1)).foldl (stepN host) 0=max b (1+x.size)):=hId (by rw [HST.out,HSTN.out,HX1.out,HSM.out];rfl)
     have hb9:max b (1+x.size)≤1148577:=by omega
     have hbm:max (b:Int) (1+(x.size:Int))=((max b (1+x.size):Nat):Int):=by omega
     clear HST HSTN HX1 HSM hbd
     go_wp2_with fail
     refine q1.mono ?_
     clear q1
     rintro e w' ⟨rfl,rfl⟩
     go_wp2_with fail
     refine q2.mono ?_
     clear q2
     rintro e w' ⟨rfl,rfl⟩
     go_wp2_with fail
     go_roundw
     case rel=>exact⟨k+1,max b (1+x.size),by omega,by go_num,rfl,hb9,HF1,HN⟩
     case measure=>simp [intOf];omega
  ·obtain rfl:k=hn:=by omega
   have htk:hosts.take k=hosts:=List.take_of_length_le (by have:=HL.out;omega)
   rw [htk,HQ.out]at HF
   go_wp2_with fail
   go_ret
   exact⟨by rw [HF.out];rfl,HM.out.trans HN.out⟩
set_option maxRecDepth 100000 in
set_option maxHeartbeats 1000000 in
theorem ref_needsMet (x:RA) (r:RtD) (q:ReqL) (A:Option Addr) (n c:Nat) (w:World) (h:RtAt w x r) (hh:HSl w A n q.heads) (hn:n≤100000) (hr:r.needs.length≤1000):
  Calls Tryz.prog 120 #[x.val,reqV q A n c] w fun e w'=>e= .returned (.bool (meetsF r.needs q.heads))∧New w w':=by
 have hs:=h.needs
 have hl:=h.needs.1
 obtain⟨key,ha,hn',hc,path,ma,mn,mc,na,nn,nc,dest⟩:=x
 obtain⟨at_,me,ho,pa,qu,fr,heads,bo⟩:=q
 simp only [RA.val,reqV]at hl hs hh ⊢
 have hM:meetsF r.needs heads=r.needs.all (meetH heads):=rfl
 rw [hM]
 generalize r.needs=needs at *
 have hnn:nn≤1000:=by omega
 have hb:=Blk.new w 29 #[.string key,.slice ha hn' hc,.string path,.slice ma mn mc,.slice na nn nc,.string dest]
 have hm:New w (w.alloc (.cells #[.string key,.slice ha hn' hc,.string path,.slice ma mn mc,.slice na nn nc,.string dest] 29)):=(Mod.refl _ _).alloc _
 have hz1:(w.alloc (.cells #[.string key,.slice ha hn' hc,.string path,.slice ma mn mc,.slice na nn nc,.string dest] 29)).heap.size=w.heap.size+1:=by simp
 go_enter Tryz.func120,Tryz.ntmps120
 go_upto_region 1 with(fail)
 generalize w.alloc (.cells #[.string key,.slice ha hn' hc,.string path,.slice ma mn mc,.slice na nn nc,.string dest] 29)=wA at *
 have hb2:=Blk.new wA 33 #[.int .i64 at_,.string me,.string ho,.string pa,.string qu,.string fr,.slice A n c,.string bo]
 have hm2:New wA (wA.alloc (.cells #[.int .i64 at_,.string me,.string ho,.string pa,.string qu,.string fr,.slice A n c,.string bo] 33)):=(Mod.refl _ _).alloc _
 have hb1:=hb.new2 hm2
 have HM1:=hId (hm.trans hm2)
 rw [hz1]at hb2
 have HRQ:=hId hb2
 clear hb hm hb2 hm2 hz1
 generalize wA.alloc (.cells #[.int .i64 at_,.string me,.string ho,.string pa,.string qu,.string fr,.slice A n c,.string bo] 33)=w1 at *
 have HS:=hId (hs.new HM1.out)
 have HH:=hId (hh.new HM1.out)
 have HL:=hId hl
 have r4:=hb1.cell 4
 have rl:=hb1.lt
 simp only [lqt,lqz,lqs]at r4
 generalize w.heap.size+1=yb at *
 generalize w.heap.size=xb at *
 clear hb1 hs hh hl hM hr h
 go_wp2_with fail
 clear r4 rl
 go_loopw [10] (fun i wr=>∃ k:Nat,k≤nn∧i= .int .i64 k∧Hid ((needs.take k).all (meetH heads)=true)∧Hid (New w1 wr)) (fun i _=>nn -(intOf i).toNat)
 case atStart=>exact⟨0,Nat.zero_le _,rfl,hId rfl,hId (Mod.refl _ _)⟩
 case round=>
  rename World=>wr
  obtain⟨k,hk,rfl,HE,HM⟩:=hrel
  by_cases hlt:k<nn
  ·have hkl:k<needs.length:=by have:=HL.out;omega
   obtain⟨g1,o1,hA,htb,hc0⟩:=(HS.out.new HM.out).2 (by omega)
   subst hA
   have hgl:=htb.lt
   have a0:=hc0 k hkl 0 (by omega)
   have a1:=hc0 k hkl 1 (by omega)
   simp only [pairEnc,Nat.add_zero]at a0 a1
   have HE1:=hId (all_step hkl HE.out)
   have HE0:=hId (all_miss (p:=meetH heads) hkl)
   clear htb hc0 HE
   generalize needs[k]=x at *
   have HXQ:Hid (meetH heads x=heads.any (meet1 x)):=hId rfl
   have HPR:=hId (fun (p:PairD) (pb:Nat) (W:World) (hb:Blk W pb 52 #[.string x.1,.string x.2])=>ref_needs1 x p pb W hb)
   obtain⟨xn,xv⟩:=x
   simp only at a0 a1 HPR
   have hb2:(0:Int)≤k:=by omega
   have hb3:(k:Int)<nn:=by omega
   have bp:=Blk.new wr 52 #[.string xn,.string xv]
   have mp:New wr (wr.alloc (.cells #[.string xn,.string xv] 52)):=(Mod.refl _ _).alloc _
   go_upto_region 4 with(fail)
   have HMP:=hId (HM.out.trans mp)
   have HBP:=hId bp
   clear a0 a1 bp mp hgl HM
   generalize wr.alloc (.cells #[.string xn,.string xv] 52)=w2 at *
   generalize wr.heap.size=pb at *
   have hcf:=containsFunc_hdr 188 (.pointer (some ⟨pb,0,none⟩)) enters_needs1 w2 A n c heads (meet1 (xn,xv)) (HH.out.new HMP.out) (fun p W hW=>HPR.out p pb W (HBP.out.mod hW (fun e=>e))) (by omega)
   rw [← HXQ.out]at hcf
   generalize meetH heads (xn,xv)=Q at *
   have HRQ2:=hId (HRQ.out.mod HMP.out (fun e=>e))
   have d6:=HRQ2.out.cell 6
   have dl:=HRQ2.out.lt
   simp only [lqt,lqz,lqs]at d6
   cases Q
   ·have HQ:=hId (HE0.out rfl)
    clear HE0 HE1 HXQ HPR
    go_wp2_with fail
    refine hcf.mono ?_
    clear hcf
    rintro e w3 ⟨rfl,m3⟩
    have HM3:=hId (HM1.out.trans (HMP.out.trans m3))
    clear m3
    go_wp2_with fail
    go_ret
    exact⟨ret_bool HQ.out.symm,HM3.out⟩
   ·have HQ:=HE1
    clear HE0 HE1 HXQ HPR
    go_wp2_with fail
    refine hcf.mono ?_
    clear hcf
    rintro e w3 ⟨rfl,m3⟩
    have HM3:=hId (HMP.out.trans m3)
    clear m3
    go_wp2_with fail
    go_roundw
    case rel=>exact⟨k+1,by omega,by go_num,HQ,HM3⟩
    case measure=>simp [intOf];omega
  ·obtain rfl:k=nn:=by omega
   have htk:needs.take k=needs:=List.take_of_length_le (by have:=HL.out;omega)
   have HQ:Hid (needs.all (meetH heads)=true):=hId (by rw [← HE.out,htk])
   clear htk
   go_wp2_with fail
   go_ret
   exact⟨ret_bool HQ.out.symm,HM1.out.trans HM.out⟩
end Go.Proofs.YtnlloaimplgjnaaGreatDoor
