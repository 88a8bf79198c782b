/- Several texts in one. (1) Which route takes a request: the reference's (gateref1.pathParams, HitOf). Conditions: texts of modest size; the library's variables lie as they should. (2) Maps, said of lists of pairs: looking up, storing, counting, deleting. No conditions. (3) Maps that are only looked up and stored into, said of total functions; the two halves of a store in a tuple assignment. No conditions. -/
import Derived.Test.YtnlloaimplgjnaaGreatDoorBuildGrp
import Derived.Test.YtnlloaimplgjnaaGreatDoorMatchOfGrp
import Derived.Test.YtnlloaimplgjnaaGreatDoorNormBGrp
import Derived.Test.YtnlloaimplgjnaaGreatDoorChgLawGrp
import Derived.Test.YtnlloaimplgjnaaGreatDoorNrm0Grp
import Derived.Test.YtnlloaimplgjnaaGreatDoorBase
import Derived.MapKept
import Derived.Maps.OwnSet
import Derived.Maps.OwnOps
namespace Go.Proofs.YtnlloaimplgjnaaGreatDoor
open Go.RowKit
set_option linter.unusedVariables false
set_option linter.unusedSimpArgs false
/-- pairs, and whether a path fits -/
def RPar (q:List PairD×Bool) (w:World) (e:Ending) (w':World):Prop:=∃ A n c,e= .returned (.tuple #[.slice A n c,.bool q.2])∧QSl w' A n q.1∧New w w'∧n≤c
set_option maxRecDepth 100000 in
set_option maxHeartbeats 1000000 in
theorem ref_pathParams (x:RA) (r:RtD) (q:ReqL) (A:Option Addr) (n c:Nat) (w:World) (h:RtAt w x r) (hp:r.path.size≤100000) (hq:q.path.size≤100000) (hx:MaxLn w) (he:ErrSyn w):
  Calls Tryz.prog 118 #[x.val,reqV q A n c] w (RPar ((matchOf r.path q.path).1,(matchOf r.path q.path).2.1) w):=by
 have hk:=h.path
 clear h
 obtain⟨key,ha,hn,hc,path,ma,mn,mc,na,nn,nc,dest⟩:=x
 obtain⟨at_,me,ho,pa,qu,fr,heads,bo⟩:=q
 simp only [RA.val,reqV]at hk hq ⊢
 subst hk
 have HQ:=hId (fun W (hm:New w W)=>ref1_matchOf r.path pa W hp hq (hx.new hm) (he.new hm))
 generalize r.path=path at *
 generalize matchOf path pa=M at *
 obtain⟨M1,M2,M3⟩:=M
 clear hp hq hx he
 have hb:=Blk.new w 29 #[.string key,.slice ha hn hc,.string path,.slice ma mn mc,.slice na nn nc,.string dest]
 have hm:New w (w.alloc (.cells #[.string key,.slice ha hn hc,.string path,.slice ma mn mc,.slice na nn nc,.string dest] 29)):=(Mod.refl _ _).alloc _
 have hz1:(w.alloc (.cells #[.string key,.slice ha hn hc,.string path,.slice ma mn mc,.slice na nn nc,.string dest] 29)).heap.size=w.heap.size+1:=by simp
 go_enter Tryz.func118,Tryz.ntmps118
 go_upto_region 1 with(fail)
 generalize w.alloc (.cells #[.string key,.slice ha hn hc,.string path,.slice ma mn mc,.slice na nn nc,.string dest] 29)=wA at *
 have hy:=Blk.new wA 33 #[.int .i64 at_,.string me,.string ho,.string pa,.string qu,.string fr,.slice A n c,.string bo]
 have hm2:New wA (wA.alloc (.cells #[.int .i64 at_,.string me,.string ho,.string pa,.string qu,.string fr,.slice A n c,.string bo] 33)):=(Mod.refl _ _).alloc _
 have HM:=hId (hm.trans hm2)
 have hb2:=hb.new2 hm2
 rw [hz1]at hy
 clear hb hm hm2
 generalize wA.alloc (.cells #[.int .i64 at_,.string me,.string ho,.string pa,.string qu,.string fr,.slice A n c,.string bo] 33)=w1 at *
 clear hz1
 generalize w.heap.size=xb at *
 have x2:=hb2.cell 2
 have xl:=hb2.lt
 have y3:=hy.cell 3
 have yl:=hy.lt
 simp only [lqt,lqz,lqs]at x2 y3
 clear hb2 hy
 have q:=HQ.out w1 HM.out
 clear HQ
 go_wp2_with fail
 refine q.mono ?_
 clear q x2 xl y3 yl
 rintro e w2 ⟨A2,n2,c2,rfl,hq2,m2,hc2⟩
 have HF:Hid (RPar (M1,M2) w (.returned (.tuple #[.slice A2 n2 c2,.bool M2])) w2):=hId ⟨A2,n2,c2,rfl,hq2,HM.out.trans m2,hc2⟩
 clear hq2 m2 HM hc2
 simp only
 go_wp2_with fail
 go_ret2
 exact HF.out
/-- a hit, and whether there is one -/
def RHit (key:ByteArray) (q:Option (List PairD)) (w:World) (e:Ending) (w':World):Prop:=∃ A n c,e= .returned (.tuple #[.agg #[.string (if q.isSome then key else⟨#[]⟩),.slice A n c],.bool q.isSome])∧(∀ l,q=some l→QSl w' A n l)∧New w w'∧n≤c
set_option maxRecDepth 100000 in
set_option maxHeartbeats 2000000 in
theorem ref_hitOf (x:RA) (r:RtD) (q:ReqL) (A:Option Addr) (n c:Nat) (w:World) (h:RtAt w x r) (hh:HSl w A n q.heads) (hp:r.path.size≤100000) (hq:q.path.size≤100000) (hqh:q.host.size≤100000) (hz:∀ y∈r.hosts,y.size≤100000) (hl:r.hosts.length≤1000)
  (hnn:r.needs.length≤1000) (hmm:r.methods.length≤1000) (hn:n≤100000) (hx:MaxLn w) (he:ErrSyn w):
  Calls Tryz.prog 48 #[x.val,reqV q A n c] w (RHit r.key (hitOf r q) w):=by
 have HPP:=hId (fun W (hm:New w W)=>ref_pathParams x r q A n c W (h.new hm) hp hq (hx.new hm) (he.new hm))
 have HRK:=hId (fun W (hm:New w W)=>ref_hostRank x r q.host W (h.new hm) hz hqh hl)
 have HNM:=hId (fun W (hm:New w W)=>ref_needsMet x r q A n c W (h.new hm) (hh.new hm) hn hnn)
 have HCT:=hId (fun W (hm:New w W)=>contains_take x.ma x.mn x.mc x.mn r.methods q.method W (h.new hm).methods (Nat.le_refl _) (by have:=h.methods.1;omega))
 have hhit:=hitOf_ref r q
 have hml:=h.methods.1
 have HKEY:=hId h.key
 have hmk:methOk r q.method=(decide (r.methods= [])||Lib.containsS r.methods q.method):=rfl
 rw [hmk]at hhit
 clear h hh hp hq hqh hz hl hnn hmm hn hx he hmk
 have htk:r.methods.take x.mn=r.methods:=List.take_of_length_le (by omega)
 rw [htk]at HCT
 clear htk
 have hm0:decide (r.methods= [])=decide (x.mn=0):=by
  rw [Bool.eq_iff_iff]
  simp only [decide_eq_true_eq]
  constructor
  ·intro e;rw [e]at hml;exact hml.symm
  ·intro e;exact List.eq_nil_of_length_eq_zero (by omega)
 rw [hm0]at hhit
 have HH:=hId hhit
 clear hhit hm0 hml
 generalize Lib.containsS r.methods q.method=MC at *
 generalize meetsF r.needs q.heads=MT at *
 generalize rankN r.hosts q.host=RN at *
 generalize matchOf r.path q.path=M at *
 obtain⟨M1,M2,M3⟩:=M
 obtain⟨key,ha,hn',hc,path,ma,mn,mc,na,nn,nc,dest⟩:=x
 simp only at HH HKEY HPP
 simp only [RA.val]at HPP HRK HNM HCT ⊢
 have hqe:reqV q A n c= .agg #[.int .i64 q.at_,.string q.method,.string q.host,.string q.path,.string q.query,.string q.from_,.slice A n c,.string q.body]:=rfl
 rw [hqe]at HPP HNM ⊢
 clear hqe
 have hb:=Blk.new w 29 #[.string key,.slice ha hn' hc,.string path,.slice ma mn mc,.slice na nn nc,.string dest]
 have hm:New w (w.alloc (.cells #[.string key,.slice ha hn' hc,.string path,.slice ma mn mc,.slice na nn nc,.string dest] 29)):=(Mod.refl _ _).alloc _
 have hz1:(w.alloc (.cells #[.string key,.slice ha hn' hc,.string path,.slice ma mn mc,.slice na nn nc,.string dest] 29)).heap.size=w.heap.size+1:=by simp
 go_enter Tryz.func48,Tryz.ntmps48
 go_upto_region 1 with(fail)
 generalize w.alloc (.cells #[.string key,.slice ha hn' hc,.string path,.slice ma mn mc,.slice na nn nc,.string dest] 29)=wA at *
 have hy:=Blk.new wA 33 #[.int .i64 q.at_,.string q.method,.string q.host,.string q.path,.string q.query,.string q.from_,.slice A n c,.string q.body]
 have hm2:New wA (wA.alloc (.cells #[.int .i64 q.at_,.string q.method,.string q.host,.string q.path,.string q.query,.string q.from_,.slice A n c,.string q.body] 33)):=(Mod.refl _ _).alloc _
 have hz2:(wA.alloc (.cells #[.int .i64 q.at_,.string q.method,.string q.host,.string q.path,.string q.query,.string q.from_,.slice A n c,.string q.body] 33)).heap.size=wA.heap.size+1:=by simp
 generalize wA.alloc (.cells #[.int .i64 q.at_,.string q.method,.string q.host,.string q.path,.string q.query,.string q.from_,.slice A n c,.string q.body] 33)=wB at *
 have hr:=Blk.new wB 91 #[.string ⟨#[]⟩,.slice none 0 0]
 have hm3:New wB (wB.alloc (.cells #[.string ⟨#[]⟩,.slice none 0 0] 91)):=(Mod.refl _ _).alloc _
 have HM:=hId ((hm.trans hm2).trans hm3)
 have HX:=hId ((hb.new2 hm2).new2 hm3)
 have hy2:=hy.new2 hm3
 rw [hz2,hz1]at hr
 rw [hz1]at hy2
 have HY:=hId hy2
 have HR:=hId hr
 clear hb hy hr hm hm2 hm3 hy2
 generalize wB.alloc (.cells #[.string ⟨#[]⟩,.slice none 0 0] 91)=w1 at *
 clear hz1 hz2
 generalize hxb:w.heap.size=xb at *
 generalize hrb:xb+1+1=rb at *
 have HRB:Hid (w.heap.size≤rb):=hId (by omega)
 have hxr:xb≠rb:=by omega
 have hyr:xb+1≠rb:=by omega
 clear hxb hrb
 have hp0:=HPP.out w1 HM.out
 clear HPP
 have x0:=HX.out.cell 0
 have x1:=HX.out.cell 1
 have x2:=HX.out.cell 2
 have x3:=HX.out.cell 3
 have x4:=HX.out.cell 4
 have x5:=HX.out.cell 5
 have xl:=HX.out.lt
 have y0:=HY.out.cell 0
 have y1:=HY.out.cell 1
 have y2:=HY.out.cell 2
 have y3:=HY.out.cell 3
 have y4:=HY.out.cell 4
 have y5:=HY.out.cell 5
 have y6:=HY.out.cell 6
 have y7:=HY.out.cell 7
 have yl:=HY.out.lt
 simp only [lqt,lqz,lqs]at x0 x1 x2 x3 x4 x5 y0 y1 y2 y3 y4 y5 y6 y7
 go_wp2_with fail
 refine hp0.mono ?_
 clear hp0
 clear x0 x1 x2 x3 x4 x5 xl y0 y1 y2 y3 y4 y5 y6 y7 yl
 rintro e w2 ⟨A2,n2,c2,rfl,hq2,m2,hc2⟩
 have HX1:=hId (HX.out.new2 m2)
 have HY1:=hId (HY.out.new2 m2)
 have HR1:=hId (HR.out.new2 m2)
 have HM1:=hId (HM.out.trans m2)
 have HP:=hId hq2
 have HC2:=hId hc2
 clear HX HY HR HM hq2 m2 hc2
 have HX:=HX1
 have HY:=HY1
 have HR:=HR1
 have HM:=HM1
 clear HX1 HY1 HR1 HM1
 have x0:=HX.out.cell 0
 have x1:=HX.out.cell 1
 have x2:=HX.out.cell 2
 have x3:=HX.out.cell 3
 have x4:=HX.out.cell 4
 have x5:=HX.out.cell 5
 have xl:=HX.out.lt
 have y0:=HY.out.cell 0
 have y1:=HY.out.cell 1
 have y2:=HY.out.cell 2
 have y3:=HY.out.cell 3
 have y4:=HY.out.cell 4
 have y5:=HY.out.cell 5
 have y6:=HY.out.cell 6
 have y7:=HY.out.cell 7
 have yl:=HY.out.lt
 simp only [lqt,lqz,lqs]at x0 x1 x2 x3 x4 x5 y0 y1 y2 y3 y4 y5 y6 y7
 simp only at HP
 cases M2
 ·have HO:Hid (hitOf r q=none):=hId (by rw [HH.out];rfl)
  clear HH HRK HNM HCT
  have HFIN:Hid (∀ W',Mod (fun k=>k=rb) w2 W'→RHit r.key (hitOf r q) w (.returned (.tuple #[.agg #[.string ⟨#[]⟩,.slice none 0 0],.bool false])) W'):=hId (fun W' hm=>⟨none,0,0,by rw [HO.out];rfl,by rw [HO.out];rintro l ⟨⟩,HM.out.step hm (fun i hi e=>by have h1:=HRB.out;omega),Nat.le_refl _⟩)
  clear HO
  have hcR:=HR.out.cell
  have hfR:=HR.out.frozen
  have rlt:=HR.out.lt
  have HMF:=hId (fun (v0 v1:Value)=>(Mod.setCell (S:=fun k=>k=rb) (p:=⟨rb,1,none⟩) (Mod.setCell (S:=fun k=>k=rb) (p:=⟨rb,0,none⟩) (Mod.refl _ w2) (.inl rfl) v0) (.inl rfl) v1))
  clear HR HX HY HP HM
  go_wp2_with fail
  refine bodyPost_ret (v:=(.tuple #[.agg #[.string ⟨#[]⟩,.slice none 0 0],.bool false])) (by simp [results,Tryz.results48,go_sem,hcR,hfR,rlt]) rfl ?_
  exact HFIN.out _ (HMF.out _ _)
 have hrk:=HRK.out w2 HM.out
 clear HRK
 go_upto_region 2 with(fail)
 go_wp2_with fail
 refine hrk.mono ?_
 clear hrk
 rintro e w3 ⟨rfl,m3⟩
 clear x0 x1 x2 x3 x4 x5 xl y0 y1 y2 y3 y4 y5 y6 y7 yl
 have HX1:=hId (HX.out.new2 m3)
 have HY1:=hId (HY.out.new2 m3)
 have HR1:=hId (HR.out.new2 m3)
 have HM1:=hId (HM.out.trans m3)
 have HP1:=hId (HP.out.new m3)
 clear HX HY HR HM HP m3
 have HX:=HX1
 have HY:=HY1
 have HR:=HR1
 have HM:=HM1
 have HP:=HP1
 clear HX1 HY1 HR1 HM1 HP1
 have x0:=HX.out.cell 0
 have x1:=HX.out.cell 1
 have x2:=HX.out.cell 2
 have x3:=HX.out.cell 3
 have x4:=HX.out.cell 4
 have x5:=HX.out.cell 5
 have xl:=HX.out.lt
 have y0:=HY.out.cell 0
 have y1:=HY.out.cell 1
 have y2:=HY.out.cell 2
 have y3:=HY.out.cell 3
 have y4:=HY.out.cell 4
 have y5:=HY.out.cell 5
 have y6:=HY.out.cell 6
 have y7:=HY.out.cell 7
 have yl:=HY.out.lt
 simp only [lqt,lqz,lqs]at x0 x1 x2 x3 x4 x5 y0 y1 y2 y3 y4 y5 y6 y7
 by_cases h0:RN=0
 ·subst h0
  have HO:Hid (hitOf r q=none):=hId (by rw [HH.out];rfl)
  clear HH HNM HCT
  have HFIN:Hid (∀ W',Mod (fun k=>k=rb) w3 W'→RHit r.key (hitOf r q) w (.returned (.tuple #[.agg #[.string ⟨#[]⟩,.slice none 0 0],.bool false])) W'):=hId (fun W' hm=>⟨none,0,0,by rw [HO.out];rfl,by rw [HO.out];rintro l ⟨⟩,HM.out.step hm (fun i hi e=>by have h1:=HRB.out;omega),Nat.le_refl _⟩)
  clear HO
  have hcR:=HR.out.cell
  have hfR:=HR.out.frozen
  have rlt:=HR.out.lt
  have HMF:=hId (fun (v0 v1:Value)=>(Mod.setCell (S:=fun k=>k=rb) (p:=⟨rb,1,none⟩) (Mod.setCell (S:=fun k=>k=rb) (p:=⟨rb,0,none⟩) (Mod.refl _ w3) (.inl rfl) v0) (.inl rfl) v1))
  clear HR HX HY HP HM
  go_wp2_with fail
  refine bodyPost_ret (v:=(.tuple #[.agg #[.string ⟨#[]⟩,.slice none 0 0],.bool false])) (by simp [results,Tryz.results48,go_sem,hcR,hfR,rlt]) rfl ?_
  exact HFIN.out _ (HMF.out _ _)
 have h0b:((RN:Int) == 0)=false:=by simpa using h0
 have HH2:Hid (hitOf r q=if MT&&(decide (mn=0)||MC) then some M1 else none):=hId (by rw [HH.out,decide_eq_false h0];simp)
 clear HH h0
 have hnm:=HNM.out w3 HM.out
 clear HNM
 go_wp2_with fail
 refine hnm.mono ?_
 clear hnm
 rintro e w4 ⟨rfl,m4⟩
 clear x0 x1 x2 x3 x4 x5 xl y0 y1 y2 y3 y4 y5 y6 y7 yl
 have HX1:=hId (HX.out.new2 m4)
 have HY1:=hId (HY.out.new2 m4)
 have HR1:=hId (HR.out.new2 m4)
 have HM1:=hId (HM.out.trans m4)
 have HP1:=hId (HP.out.new m4)
 clear HX HY HR HM HP m4
 have HX:=HX1
 have HY:=HY1
 have HR:=HR1
 have HM:=HM1
 have HP:=HP1
 clear HX1 HY1 HR1 HM1 HP1
 have x0:=HX.out.cell 0
 have x1:=HX.out.cell 1
 have x2:=HX.out.cell 2
 have x3:=HX.out.cell 3
 have x4:=HX.out.cell 4
 have x5:=HX.out.cell 5
 have xl:=HX.out.lt
 have y0:=HY.out.cell 0
 have y1:=HY.out.cell 1
 have y2:=HY.out.cell 2
 have y3:=HY.out.cell 3
 have y4:=HY.out.cell 4
 have y5:=HY.out.cell 5
 have y6:=HY.out.cell 6
 have y7:=HY.out.cell 7
 have yl:=HY.out.lt
 simp only [lqt,lqz,lqs]at x0 x1 x2 x3 x4 x5 y0 y1 y2 y3 y4 y5 y6 y7
 cases MT
 ·have HO:Hid (hitOf r q=none):=hId (by rw [HH2.out];rfl)
  clear HH2 HCT
  have HFIN:Hid (∀ W',Mod (fun k=>k=rb) w4 W'→RHit r.key (hitOf r q) w (.returned (.tuple #[.agg #[.string ⟨#[]⟩,.slice none 0 0],.bool false])) W'):=hId (fun W' hm=>⟨none,0,0,by rw [HO.out];rfl,by rw [HO.out];rintro l ⟨⟩,HM.out.step hm (fun i hi e=>by have h1:=HRB.out;omega),Nat.le_refl _⟩)
  clear HO
  have hcR:=HR.out.cell
  have hfR:=HR.out.frozen
  have rlt:=HR.out.lt
  have HMF:=hId (fun (v0 v1:Value)=>(Mod.setCell (S:=fun k=>k=rb) (p:=⟨rb,1,none⟩) (Mod.setCell (S:=fun k=>k=rb) (p:=⟨rb,0,none⟩) (Mod.refl _ w4) (.inl rfl) v0) (.inl rfl) v1))
  clear HR HX HY HP HM
  go_wp2_with fail
  refine bodyPost_ret (v:=(.tuple #[.agg #[.string ⟨#[]⟩,.slice none 0 0],.bool false])) (by simp [results,Tryz.results48,go_sem,hcR,hfR,rlt]) rfl ?_
  exact HFIN.out _ (HMF.out _ _)
 by_cases hm0:mn=0
 ·subst hm0
  have HO:Hid (hitOf r q=some M1):=hId (by rw [HH2.out];rfl)
  clear HH2 HCT
  have HFIN:Hid (∀ W',Mod (fun k=>k=rb) w4 W'→RHit r.key (hitOf r q) w (.returned (.tuple #[.agg #[.string key,.slice A2 n2 c2],.bool true])) W'):=hId (fun W' hm=>⟨A2,n2,c2,by rw [HO.out];rw [HKEY.out];rfl,by rw [HO.out];rintro l ⟨⟩;exact HP.out.mod hm (fun g hg e=>hg.ne HR.out.tb (by decide) e),HM.out.step hm (fun i hi e=>by have h1:=HRB.out;omega),HC2.out⟩)
  clear HO
  have hcR:=HR.out.cell
  have hfR:=HR.out.frozen
  have rlt:=HR.out.lt
  have HMF:=hId (fun (v0 v1:Value)=>(Mod.setCell (S:=fun k=>k=rb) (p:=⟨rb,1,none⟩) (Mod.setCell (S:=fun k=>k=rb) (p:=⟨rb,0,none⟩) (Mod.refl _ w4) (.inl rfl) v0) (.inl rfl) v1))
  clear HR HX HY HP HM
  go_wp2_with fail
  refine bodyPost_ret (v:=(.tuple #[.agg #[.string key,.slice A2 n2 c2],.bool true])) (by simp [results,Tryz.results48,go_sem,hcR,hfR,rlt]) rfl ?_
  exact HFIN.out _ (HMF.out _ _)
 have hmp:0<mn:=by omega
 have HH3:Hid (hitOf r q=if MC then some M1 else none):=hId (by rw [HH2.out,decide_eq_false hm0];simp)
 clear HH2 hm0
 have hct:=HCT.out w4 HM.out
 clear HCT
 go_wp2_with fail
 refine hct.mono ?_
 clear hct
 rintro e w5 ⟨rfl,hw5⟩
 subst hw5
 cases MC
 ·have HO:Hid (hitOf r q=none):=hId (by rw [HH3.out];rfl)
  clear HH3
  have HFIN:Hid (∀ W',Mod (fun k=>k=rb) w5 W'→RHit r.key (hitOf r q) w (.returned (.tuple #[.agg #[.string ⟨#[]⟩,.slice none 0 0],.bool false])) W'):=hId (fun W' hm=>⟨none,0,0,by rw [HO.out];rfl,by rw [HO.out];rintro l ⟨⟩,HM.out.step hm (fun i hi e=>by have h1:=HRB.out;omega),Nat.le_refl _⟩)
  clear HO
  have hcR:=HR.out.cell
  have hfR:=HR.out.frozen
  have rlt:=HR.out.lt
  have HMF:=hId (fun (v0 v1:Value)=>(Mod.setCell (S:=fun k=>k=rb) (p:=⟨rb,1,none⟩) (Mod.setCell (S:=fun k=>k=rb) (p:=⟨rb,0,none⟩) (Mod.refl _ w5) (.inl rfl) v0) (.inl rfl) v1))
  clear HR HX HY HP HM
  go_wp2_with fail
  refine bodyPost_ret (v:=(.tuple #[.agg #[.string ⟨#[]⟩,.slice none 0 0],.bool false])) (by simp [results,Tryz.results48,go_sem,hcR,hfR,rlt]) rfl ?_
  exact HFIN.out _ (HMF.out _ _)
 ·have HO:Hid (hitOf r q=some M1):=hId (by rw [HH3.out];rfl)
  clear HH3
  have HFIN:Hid (∀ W',Mod (fun k=>k=rb) w5 W'→RHit r.key (hitOf r q) w (.returned (.tuple #[.agg #[.string key,.slice A2 n2 c2],.bool true])) W'):=hId (fun W' hm=>⟨A2,n2,c2,by rw [HO.out];rw [HKEY.out];rfl,by rw [HO.out];rintro l ⟨⟩;exact HP.out.mod hm (fun g hg e=>hg.ne HR.out.tb (by decide) e),HM.out.step hm (fun i hi e=>by have h1:=HRB.out;omega),HC2.out⟩)
  clear HO
  have hcR:=HR.out.cell
  have hfR:=HR.out.frozen
  have rlt:=HR.out.lt
  have HMF:=hId (fun (v0 v1:Value)=>(Mod.setCell (S:=fun k=>k=rb) (p:=⟨rb,1,none⟩) (Mod.setCell (S:=fun k=>k=rb) (p:=⟨rb,0,none⟩) (Mod.refl _ w5) (.inl rfl) v0) (.inl rfl) v1))
  clear HR HX HY HP HM
  go_wp2_with fail
  refine bodyPost_ret (v:=(.tuple #[.agg #[.string key,.slice A2 n2 c2],.bool true])) (by simp [results,Tryz.results48,go_sem,hcR,hfR,rlt]) rfl ?_
  exact HFIN.out _ (HMF.out _ _)
end Go.Proofs.YtnlloaimplgjnaaGreatDoor
namespace Go.Proofs.YtnlloaimplgjnaaGreatDoor
open Go.RowKit Go.MapKept
set_option linter.unusedVariables false
set_option linter.unusedSimpArgs false
/-- how the keys of a map are written as values -/
structure Keys (κ:Type) where
 enc:κ→Value
 desc:TypeDesc
 inj:∀ a b,enc a=enc b→a=b
 isKey:∀ a,IsKey desc (enc a)
def strKeys:Keys ByteArray:=⟨Value.string,.string,fun a b h=>by injection h,fun _=>trivial⟩
section
variable {κ:Type} [DecidableEq κ]
def aget (m:List (κ×Value)) (k:κ):Option Value:=(m.find? fun p=>decide (p.1=k)).map (·.2)
def aput (m:List (κ×Value)) (k:κ) (v:Value):List (κ×Value):=if (aget m k).isSome then m.map (fun p=>if p.1=k then(p.1,v) else p) else m++ [(k,v)]
/-- block b is a map that reads as m -/
def MapOf (K:Keys κ) (w:World) (b:Nat) (m:List (κ×Value)):Prop:=
 ∃ es clock,w.heap[b]? =some (.map es clock)∧Stamped es clock∧es.toList.map (fun e=>(e.key,e.val))=m.map (fun p=>(K.enc p.1,p.2))
variable {K:Keys κ} {w w':World} {b:Nat} {m:List (κ×Value)} {P:Program}
omit [DecidableEq κ]in
theorem MapOf.lt (h:MapOf K w b m):b<w.heap.size:=by obtain⟨es,clock,hb,_⟩:=h;exact heap_lt hb
omit [DecidableEq κ]in
theorem MapOf.mod {S:Nat→Prop} (h:MapOf K w b m) (hm:Mod S w w') (hs:¬ S b):MapOf K w' b m:=by
 obtain⟨es,clock,hb,hr⟩:=h
 exact⟨es,clock,(hm.block b (heap_lt hb) hs).trans hb,hr⟩
omit [DecidableEq κ]in
theorem MapOf.made (h:w.heap[b]? =some (.map #[] 0)):MapOf K w b []:=⟨#[],0,h,stamped_empty 0,rfl⟩
omit [DecidableEq κ]in
theorem MapOf.keys {es:Array MapEntry} (he:es.toList.map (fun e=>(e.key,e.val))=m.map (fun p=>(K.enc p.1,p.2))):∀ x∈es.toList,IsKey K.desc x.key:=by
 intro x hx
 have:(x.key,x.val)∈m.map (fun p=>(K.enc p.1,p.2)):=by rw [← he];exact List.mem_map.2 ⟨x,hx,rfl⟩
 obtain⟨p,_,hp⟩:=List.mem_map.1 this
 injection hp with h1 h2
 rw [← h1];exact K.isKey _
omit [DecidableEq κ]in
theorem MapOf.nodup {es:Array MapEntry} {clock:Nat} (hs:Stamped es clock) (he:es.toList.map (fun e=>(e.key,e.val))=m.map (fun p=>(K.enc p.1,p.2))):(m.map (·.1)).Nodup:=by
 have h1:es.toList.map (·.key)=(m.map (·.1)).map K.enc:=by
  have:=congrArg (List.map Prod.fst) he
  simpa [List.map_map,Function.comp_def]using this
 have h2:=hs.2.2
 rw [h1]at h2
 exact List.Pairwise.of_map K.enc (fun a b hab e=>hab (by rw [e])) h2
/-- where a key stands, if anywhere -/
theorem MapOf.find {es:Array MapEntry} {clock:Nat} (hs:Stamped es clock) (he:es.toList.map (fun e=>(e.key,e.val))=m.map (fun p=>(K.enc p.1,p.2))) (k:κ):
  (Instr.findNow K.desc (K.enc k) es.toList 0=some none∧aget m k=none∧∀ x∈es.toList,x.key≠K.enc k)∨
  ∃ j e p,Instr.findNow K.desc (K.enc k) es.toList 0=some (some (j,e.val))∧es.toList[j]? =some e∧e.key=K.enc k∧m[j]? =some p∧p.1=k∧p.2=e.val∧aget m k=some e.val:=by
 rcases findNow_spec (K.isKey k) es.toList 0 (MapOf.keys he)with⟨h1,h2⟩ |⟨j,e,h1,h2,h3⟩
 ·refine .inl ⟨h1,?_,h2⟩
  unfold aget
  rw [Option.map_eq_none_iff,List.find?_eq_none]
  intro p hp
  have:(K.enc p.1,p.2)∈es.toList.map (fun e=>(e.key,e.val)):=by rw [he];exact List.mem_map.2 ⟨p,hp,rfl⟩
  obtain⟨x,hx,hxe⟩:=List.mem_map.1 this
  injection hxe with hx1 _
  intro hk
  have hk:p.1=k:=by simpa using hk
  exact h2 x hx (by rw [hx1,hk])
 ·have hj:(m.map (fun p=>(K.enc p.1,p.2)))[j]? =some (e.key,e.val):=by rw [← he];simp [h2]
  rw [List.getElem?_map]at hj
  cases hm:m[j]? with
  | none=>rw [hm]at hj;cases hj
  | some p=>
   rw [hm]at hj
   simp only [Option.map_some,Option.some.injEq,Prod.mk.injEq]at hj
   have hpk:p.1=k:=K.inj _ _ (hj.1.trans h3)
   refine .inr ⟨j,e,p,by simpa using h1,h2,h3,by rw [hm],hpk,hj.2,?_⟩
   unfold aget
   have hnd:=MapOf.nodup hs he
   have hpm:p∈m:=List.mem_of_getElem? hm
   have:m.find? (fun q=>decide (q.1=k))=some p:=by
    rw [List.find?_eq_some_iff_getElem]
    obtain⟨hjl,hje⟩:=List.getElem?_eq_some_iff.1 hm
    refine⟨by simpa using hpk,j,hjl,hje,fun i hi=>?_⟩
    simp only [Bool.not_eq_true',decide_eq_false_iff_not]
    intro hik
    have hij:(m.map (·.1))[i]'(by simp;omega)=(m.map (·.1))[j]'(by simp;omega):=by simp [hik,hje,hpk]
    have:=(List.getElem_inj hnd).1 hij
    omega
   rw [this,←hj.2];rfl
theorem run_lookup_ok {t kt e:TypeId} (ht:P.underlying t=some (.map kt e)) (hk:P.underlying kt=some K.desc) {z:Value} (hz:(zeroValue e).run P w= .ok z w) (h:MapOf K w b m) (k:κ):
  (Instr.lookup t (.map (some b)) (K.enc k) true).run P w= .ok (.tuple #[(aget m k).getD z,.bool (aget m k).isSome]) w:=by
 obtain⟨es,clock,hb,hs,he⟩:=h
 rcases MapOf.find hs he k with⟨h1,h2,_⟩ |⟨j,e0,p,h1,h2,h3,h4,h5,h6,h7⟩
 ·simp [Instr.lookup,run_underlying ht,MapKept.run_getObj_map hb,MapKept.run_checkKey hk (K.isKey k),MapKept.run_findKey hk h1,hz,Result.andThen,h2]
 ·simp [Instr.lookup,run_underlying ht,MapKept.run_getObj_map hb,MapKept.run_checkKey hk (K.isKey k),MapKept.run_findKey hk h1,Result.andThen,h7]
theorem Mod.setBlock {w:World} {b:Nat} (o:Obj):Only b w {w with heap:=w.heap.setIfInBounds b o}:=
 ⟨rfl,rfl,rfl,by simp,fun i hi hs=>by
  show(w.heap.setIfInBounds b o)[i]? =_
  rw [Array.getElem?_setIfInBounds_ne (fun e=>hs e.symm)]⟩
theorem run_mapUpdate {t kt e:TypeId} (ht:P.underlying t=some (.map kt e)) (hk:P.underlying kt=some K.desc) (h:MapOf K w b m) (k:κ) (v:Value):
  ∃ w',(Instr.mapUpdate t (.map (some b)) (K.enc k) v).run P w= .ok () w'∧MapOf K w' b (aput m k v)∧Only b w w'∧w'.heap.size=w.heap.size:=by
 obtain⟨es,clock,hb,hs,he⟩:=h
 rcases MapOf.find hs he k with⟨h1,h2,h3⟩ |⟨j,e0,p,h1,h2,h3,h4,h5,h6,h7⟩
 ·refine⟨{w with heap:=w.heap.setIfInBounds b (.map (es.push {key:=K.enc k,val:=v,born:=clock}) (clock+1))},?_,⟨_,_,(heap_set hb).1,stamped_push hs h3,?_⟩,Mod.setBlock _,by simp⟩
  ·simp [Instr.mapUpdate,run_underlying ht,MapKept.run_getObj_map hb,MapKept.run_checkKey hk (K.isKey k),MapKept.run_findKey hk h1,MapKept.run_setObj_map _ hb,Result.andThen]
  ·simp [aput,h2,he]
 ·have hes:es[j]? =some e0:=by simpa using h2
  refine⟨{w with heap:=w.heap.setIfInBounds b (.map (es.modify j fun e=>{e with key:=K.enc k,val:=v}) clock)},?_,⟨_,_,(heap_set hb).1,stamped_modify hs j _ (fun _ _=>rfl) (fun e _ hej=>?_),?_⟩,Mod.setBlock _,by simp⟩
  ·simp [Instr.mapUpdate,run_underlying ht,MapKept.run_getObj_map hb,MapKept.run_checkKey hk (K.isKey k),MapKept.run_findKey hk h1,MapKept.run_setObj_map _ hb,Result.andThen,hes,h3,MapKept.run_keyThatStays (K.isKey k)]
  ·rw [hes]at hej;injection hej with hej;subst hej;exact h3.symm
  ·have hnd:=MapOf.nodup hs he
   apply List.ext_getElem?
   intro i
   simp only [aput,h7,Option.isSome_some,if_true,List.getElem?_map,Array.getElem?_toList,Array.getElem?_modify]
   have hi:(es.toList.map (fun e=>(e.key,e.val)))[i]? =(m.map (fun p=>(K.enc p.1,p.2)))[i]?:=by rw [he]
   simp only [List.getElem?_map,Array.getElem?_toList]at hi
   by_cases hij:j=i
   ·subst hij
    simp [hes,h4,h5]
   ·rw [if_neg hij,hi]
    cases hmi:m[i]? with
    | none=>rfl
    | some q=>
     have hqk:q.1≠k:=by
      intro hq
      obtain⟨hil,hie⟩:=List.getElem?_eq_some_iff.1 hmi
      obtain⟨hjl,hje⟩:=List.getElem?_eq_some_iff.1 h4
      have hij2:(m.map (·.1))[i]'(by simpa using hil)=(m.map (·.1))[j]'(by simpa using hjl):=by simp [hie,hje,hq,h5]
      have:=(List.getElem_inj hnd).1 hij2
      omega
     simp [hqk]
end
end Go.Proofs.YtnlloaimplgjnaaGreatDoor
namespace Go.Proofs.YtnlloaimplgjnaaGreatDoor
open Go.RowKit Go.MapKept
set_option linter.unusedVariables false
set_option linter.unusedSimpArgs false
section
variable {κ:Type} [DecidableEq κ]
theorem aget_cons (p:κ×Value) (m:List (κ×Value)) (k:κ):aget (p::m) k=if p.1=k then some p.2 else aget m k:=by
 unfold aget
 rw [List.find?_cons]
 by_cases h:p.1=k <;> simp [h]
/-- block b is a map that reads as f; what is not there reads as z -/
def FMap (K:Keys κ) (w:World) (b:Nat) (z:Value) (f:κ→Value):Prop:=∃ m,MapOf K w b m∧∀ k,(aget m k).getD z=f k
variable {K:Keys κ} {w w':World} {b:Nat} {z:Value} {f:κ→Value} {P:Program}
theorem FMap.lt (h:FMap K w b z f):b<w.heap.size:=by obtain⟨m,h,_⟩:=h;exact h.lt
theorem FMap.mod {S:Nat→Prop} (h:FMap K w b z f) (hm:Mod S w w') (hs:¬ S b):FMap K w' b z f:=by obtain⟨m,h,hf⟩:=h;exact⟨m,h.mod hm hs,hf⟩
theorem FMap.made (h:w.heap[b]? =some (.map #[] 0)):FMap K w b z (fun _=>z):=⟨[],MapOf.made h,fun _=>rfl⟩
/-- the map's entry of key k bears the stamp st -/
def FEnt (K:Keys κ) (w:World) (b:Nat) (z:Value) (f:κ→Value) (k:κ) (st:Nat):Prop:=
 ∃(es:Array MapEntry) (clock:Nat) (m:List (κ×Value)) (j:Nat) (e:MapEntry),w.heap[b]? =some (.map es clock)∧Stamped es clock∧es.toList.map (fun e=>(e.key,e.val))=m.map (fun p=>(K.enc p.1,p.2))∧(∀ k,(aget m k).getD z=f k)∧es[j]? =some e∧e.key=K.enc k∧e.born=st
theorem FEnt.mod {S:Nat→Prop} {k:κ} {st:Nat} (h:FEnt K w b z f k st) (hm:Mod S w w') (hs:¬ S b):FEnt K w' b z f k st:=by
 obtain⟨es,clock,m,j,e,hb,hr⟩:=h
 exact⟨es,clock,m,j,e,(hm.block b (heap_lt hb) hs).trans hb,hr⟩
end
end Go.Proofs.YtnlloaimplgjnaaGreatDoor
