/- Several texts in one. (1) The program's check of a route (readyOf), and the ready route in memory. Printed by mkrdyf.py out of XRtRdy. Conditions: texts of modest size; the library's variable on searching is an int. (2) How a route's hosts suit a host: the program's rank. Conditions: texts of modest size. (3) Does a ready route take a method (the program's). Conditions: texts of modest size. (4) slices.IndexFunc and ContainsFunc of headers, over a closure that asks anything. Printed by mkhdrq.py. Conditions: at most 100000 of them. (5) The headers that a route needs: the program's test and the reference's. Conditions: texts of modest size. (6) The headers that a route needs, all of them: the program's test and the reference's. Conditions: texts of modest size. (7) The reference's segments of a path (gateref2.SegmentsOf). Conditions: a text of modest size; the library's variables lie as they should. -/
import Derived.Test.YtnlloaimplgjnaaGreatDoorAskGrp
import Derived.Test.YtnlloaimplgjnaaGreatDoorRtNeedGrp
import Derived.OwnWalk
import Derived.Test.YtnlloaimplgjnaaGreatDoorRtLawGrp
import Derived.Test.YtnlloaimplgjnaaGreatDoorChgLawGrp
import Derived.Test.YtnlloaimplgjnaaGreatDoorPairGrp
import Derived.Test.YtnlloaimplgjnaaGreatDoorSeg3Grp
import Derived.Test.YtnlloaimplgjnaaGreatDoorReq3Grp
import Derived.Test.YtnlloaimplgjnaaGreatDoorNormGrp
import Derived.Test.YtnlloaimplgjnaaGreatDoorPathOf1Grp
namespace Go.Proofs.YtnlloaimplgjnaaGreatDoor
open Go.RowKit
set_option linter.unusedVariables false
set_option linter.unusedSimpArgs false
/-- the cells of a route made ready -/
structure RdA where
 x:RA
 pa:Option Addr
 pn:Nat
 pc:Nat
 qa:Option Addr
 qn:Nat
 qc:Nat
def RdA.cells (y:RdA):Array Value:=#[.string y.x.key,.slice y.x.ha y.x.hn y.x.hc,.string y.x.path,.slice y.x.ma y.x.mn y.x.mc,.slice y.x.na y.x.nn y.x.nc,.string y.x.dest,.slice y.pa y.pn y.pc,.slice y.qa y.qn y.qc]
/-- the parts of the path to which a route sends on -/
def destP (r:RtD):List PartD:=if r.dest=⟨#[]⟩ then [] else(tplOf r.dest).2
/-- a route made ready stands in memory -/
structure RdyAt (w:World) (g:Nat) (y:RdA) (r:RtD):Prop where
 rt:RtAt w y.x r
 p:PSl w y.pa y.pn (tplOf r.path).2
 q:PSl w y.qa y.qn (destP r)
 pc:y.pn≤100000
 qc:y.qn≤100000
 b:Blk w g 74 y.cells
theorem RdyAt.new {w w':World} {g:Nat} {y:RdA} {r:RtD} (h:RdyAt w g y r) (hm:New w w'):RdyAt w' g y r:=⟨h.rt.new hm,h.p.new hm,h.q.new hm,h.pc,h.qc,h.b.new2 hm⟩
def AtLeast (w:World) (g:Nat):Prop:=w.heap.size≤g
def RRdyF (r:RtD) (w:World) (e:Ending) (w':World):Prop:=∃ p:Option Addr,e= .returned (.tuple #[.pointer p,.int .i64 (routeFP r)])∧New w w'∧(routeFP r=0→∃(g:Nat) (y:RdA),p=some ⟨g,0,none⟩∧w.heap.size≤g∧RdyAt w' g y r)
set_option maxRecDepth 100000 in
set_option maxHeartbeats 1000000 in
theorem rt_readyF (x:RA) (r:RtD) (w:World) (h:RtAt w x r) (hz:RtShort r) (hx:MaxLn w):Calls Tryz.prog 26 #[x.val] w (RRdyF r w):=by
 have HRT:=hId h
 obtain⟨k1,k2,k3,h1,h2,h3,c1,c2,c3⟩:=h
 obtain⟨z1,z2,z3,⟨z4,z5⟩,⟨z6,z7⟩,⟨z8,z9⟩⟩:=hz
 obtain⟨key,ha,hn,hc,path,ma,mn,mc,na,nn,nc,dest⟩:=x
 simp only at k1 k2 k3 h1 h2 h3 c1 c2 c3
 subst k1 k2 k3
 simp only [RA.val]
 have l1:=h1.1
 have l2:=h2.1
 have l3:=h3.1
 have HQH:=hId (fun W (h:New w W)=>rt_hostsFault ha hn hc r.hosts W (h1.new h) c1 (by omega) z5 (hx.new h))
 have HQP:=hId (fun W (h:New w W)=>route_parseTemplate r.path W z2 (hx.new h))
 have HQM:=hId (fun W (h:New w W)=>rt_methodsFault ma mn mc r.methods W (h2.new h) c2 (by omega) z7 (hx.new h))
 have HQN:=hId (fun W (h:New w W)=>rt_needsFault na nn nc r.needs W (h3.new h) c3 (by omega) z9)
 have HQD:=hId (fun W (h:New w W)=>route_parseTemplate r.dest W z3 (hx.new h))
 have HF:Hid (routeFP r=if !isKey r.key then 5 else if hostsF r.hosts≠0 then hostsF r.hosts else if (tplOf r.path).1≠0 then(tplOf r.path).1 else
  if methodsF r.methods≠0 then methodsF r.methods else if needsF r.needs≠0 then needsF r.needs else
  if r.dest=⟨#[]⟩ then 0 else if (tplOf r.dest).1≠0 then(tplOf r.dest).1 else toFP (tplOf r.path).2 (tplOf r.dest).2):=hId rfl
 have HRET:=hId (fun (p:Option Addr) (w':World) (f:Int) (hf:routeFP r=f) (hne:f≠0) (hm:New w w')=>(show RRdyF r w (.returned (.tuple #[.pointer p,.int .i64 f])) w' from⟨p,by rw [hf],hm,fun h0=>absurd (hf.symm.trans h0) hne⟩))
 have HRE2:=hId (fun (g:Nat) (w':World) (f:Int) (Ap:Option Addr) (np cp:Nat) (Aq:Option Addr) (nq cq:Nat) (hf:routeFP r=f) (hm:New w w') (hg:AtLeast w g) (hp:PSl w' Ap np (tplOf r.path).2) (hq:PSl w' Aq nq (if r.dest=⟨#[]⟩ then [] else(tplOf r.dest).2)) (hpc:np≤100000) (hqc:nq≤100000) (hb:Blk w' g 74 #[.string r.key,.slice ha hn hc,.string r.path,.slice ma mn mc,.slice na nn nc,.string r.dest,.slice Ap np cp,.slice Aq nq cq])=>(show RRdyF r w (.returned (.tuple #[.pointer (some ⟨g,0,none⟩),.int .i64 f])) w' from⟨some ⟨g,0,none⟩,by rw [hf],hm,fun _=>⟨g,⟨⟨r.key,ha,hn,hc,r.path,ma,mn,mc,na,nn,nc,r.dest⟩,Ap,np,cp,Aq,nq,cq⟩,rfl,hg,⟨HRT.out.new hm,hp,hq,hpc,hqc,hb⟩⟩⟩))
 clear HRT
 have HDE:=hId (str_nil r.dest)
 clear h1 h2 h3 z3 z4 z5 z6 z7 z8 z9 hx l1 l2 l3 c1 c2 c3
 generalize tplOf r.path=P at *
 generalize tplOf r.dest=D at *
 obtain⟨pe,pl⟩:=P
 obtain⟨de,dls⟩:=D
 simp only at HF
 have hkk:=fun W=>kit_isKey r.key W (by unfold maxLen;omega)
 have HKK:=hId hkk
 clear hkk
 obtain⟨key,hosts,path,methods,needs,dest⟩:=r
 simp only at HQH HQP HQM HQN HQD HF HDE HKK z1 z2 ⊢
 generalize hostsF hosts=hf at *
 generalize methodsF methods=mf at *
 generalize needsF needs=nf at *
 have hb:=Blk.new w 29 #[.string key,.slice ha hn hc,.string path,.slice ma mn mc,.slice na nn nc,.string dest]
 have hm:New w (w.alloc (.cells #[.string key,.slice ha hn hc,.string path,.slice ma mn mc,.slice na nn nc,.string dest] 29)):=(Mod.refl _ _).alloc _
 go_enter Tryz.func26,Tryz.ntmps26
 go_upto_region 1 with(fail)
 have HX:=hId hb
 have HM:=hId hm
 clear hb hm
 generalize w.alloc (.cells #[.string key,.slice ha hn hc,.string path,.slice ma mn mc,.slice na nn nc,.string dest] 29)=w1 at *
 generalize w.heap.size=xb at *
 have q:=HKK.out w1
 cases hk:isKey key
 ·rw [hk]at q HF
  have HE:=hId (HF.out.trans (show _=(5:Int) from rfl))
  clear hk HF
  have e0:=HX.out.cell 0
  have e1:=HX.out.cell 1
  have e2:=HX.out.cell 2
  have e3:=HX.out.cell 3
  have e4:=HX.out.cell 4
  have e5:=HX.out.cell 5
  have el:=HX.out.lt
  simp only [lqt,lqz,lqs]at e0 e1 e2 e3 e4 e5
  go_wp2_with fail
  refine q.mono ?_
  clear q
  rintro e w2 ⟨rfl,rfl⟩
  go_wp2_with fail
  go_ret2
  exact HRET.out _ _ _ HE.out (by decide) HM.out
 rw [hk]at q HF
 simp only [Bool.not_true,Bool.false_eq_true,if_false]at HF
 clear hk
 have e0:=HX.out.cell 0
 have e1:=HX.out.cell 1
 have e2:=HX.out.cell 2
 have e3:=HX.out.cell 3
 have e4:=HX.out.cell 4
 have e5:=HX.out.cell 5
 have el:=HX.out.lt
 simp only [lqt,lqz,lqs]at e0 e1 e2 e3 e4 e5
 go_wp2_with fail
 clear e0 e1 e2 e3 e4 e5 el
 refine q.mono ?_
 clear q
 rintro e w2 ⟨rfl,rfl⟩
 have q:=HQH.out _ HM.out
 have e0:=HX.out.cell 0
 have e1:=HX.out.cell 1
 have e2:=HX.out.cell 2
 have e3:=HX.out.cell 3
 have e4:=HX.out.cell 4
 have e5:=HX.out.cell 5
 have el:=HX.out.lt
 simp only [lqt,lqz,lqs]at e0 e1 e2 e3 e4 e5
 go_wp2_with fail
 clear e0 e1 e2 e3 e4 e5 el
 refine q.mono ?_
 clear q
 rintro e w2 ⟨rfl,m2⟩
 have HX1:=hId (HX.out.new2 m2)
 have HM1:=hId (HM.out.trans m2)
 clear HX HM
 have HX:=HX1
 have HM:=HM1
 clear HX1 HM1
 clear m2
 by_cases g1:hf≠0
 ·have g1b:(hf != 0)=true:=by simpa using g1
  rw [if_pos g1]at HF
  have HN1:=hId g1
  clear g1
  go_wp2_with fail
  go_ret2
  exact HRET.out _ _ _ HF.out HN1.out HM.out
 have g1b:(hf != 0)=false:=by simpa using g1
 rw [if_neg g1]at HF
 clear g1
 have q:=HQP.out _ HM.out
 have e0:=HX.out.cell 0
 have e1:=HX.out.cell 1
 have e2:=HX.out.cell 2
 have e3:=HX.out.cell 3
 have e4:=HX.out.cell 4
 have e5:=HX.out.cell 5
 have el:=HX.out.lt
 simp only [lqt,lqz,lqs]at e0 e1 e2 e3 e4 e5
 go_wp2_with fail
 clear e0 e1 e2 e3 e4 e5 el
 refine q.mono ?_
 clear q
 rintro e w3 ⟨A3,n3,c3,rfl,s3,m3,b3⟩
 have HX1:=hId (HX.out.new2 m3)
 have HM1:=hId (HM.out.trans m3)
 clear HX HM
 have HX:=HX1
 have HM:=HM1
 clear HX1 HM1
 have HS3:=hId s3
 clear m3 s3
 by_cases g2:pe≠0
 ·have g2b:(pe != 0)=true:=by simpa using g2
  rw [if_pos g2]at HF
  have HN2:=hId g2
  clear g2
  go_wp2_with fail
  go_ret2
  exact HRET.out _ _ _ HF.out HN2.out HM.out
 have g2b:(pe != 0)=false:=by simpa using g2
 rw [if_neg g2]at HF
 clear g2
 have q:=HQM.out _ HM.out
 have e0:=HX.out.cell 0
 have e1:=HX.out.cell 1
 have e2:=HX.out.cell 2
 have e3:=HX.out.cell 3
 have e4:=HX.out.cell 4
 have e5:=HX.out.cell 5
 have el:=HX.out.lt
 simp only [lqt,lqz,lqs]at e0 e1 e2 e3 e4 e5
 go_wp2_with fail
 clear e0 e1 e2 e3 e4 e5 el
 refine q.mono ?_
 clear q
 rintro e w4 ⟨rfl,m4⟩
 have HX1:=hId (HX.out.new2 m4)
 have HM1:=hId (HM.out.trans m4)
 clear HX HM
 have HX:=HX1
 have HM:=HM1
 clear HX1 HM1
 have HS4:=hId (HS3.out.new m4)
 clear m4 HS3
 by_cases g3:mf≠0
 ·have g3b:(mf != 0)=true:=by simpa using g3
  rw [if_pos g3]at HF
  have HN3:=hId g3
  clear g3
  go_wp2_with fail
  go_ret2
  exact HRET.out _ _ _ HF.out HN3.out HM.out
 have g3b:(mf != 0)=false:=by simpa using g3
 rw [if_neg g3]at HF
 clear g3
 have q:=HQN.out _ HM.out
 have e0:=HX.out.cell 0
 have e1:=HX.out.cell 1
 have e2:=HX.out.cell 2
 have e3:=HX.out.cell 3
 have e4:=HX.out.cell 4
 have e5:=HX.out.cell 5
 have el:=HX.out.lt
 simp only [lqt,lqz,lqs]at e0 e1 e2 e3 e4 e5
 go_wp2_with fail
 clear e0 e1 e2 e3 e4 e5 el
 refine q.mono ?_
 clear q
 rintro e w5 ⟨rfl,m5⟩
 have HX1:=hId (HX.out.new2 m5)
 have HM1:=hId (HM.out.trans m5)
 clear HX HM
 have HX:=HX1
 have HM:=HM1
 clear HX1 HM1
 have HS5:=hId (HS4.out.new m5)
 clear m5 HS4
 by_cases g4:nf≠0
 ·have g4b:(nf != 0)=true:=by simpa using g4
  rw [if_pos g4]at HF
  have HN4:=hId g4
  clear g4
  go_wp2_with fail
  go_ret2
  exact HRET.out _ _ _ HF.out HN4.out HM.out
 have g4b:(nf != 0)=false:=by simpa using g4
 rw [if_neg g4]at HF
 clear g4
 have HM5S:Hid (w.heap.size≤w5.heap.size):=hId HM.out.size
 have e0:=HX.out.cell 0
 have e1:=HX.out.cell 1
 have e2:=HX.out.cell 2
 have e3:=HX.out.cell 3
 have e4:=HX.out.cell 4
 have e5:=HX.out.cell 5
 have el:=HX.out.lt
 simp only [lqt,lqz,lqs]at e0 e1 e2 e3 e4 e5
 go_upto_region 16 with(fail)
 clear e0 e1 e2 e3 e4 e5 el
 have bR:=Blk.new w5 74 #[.string key,.slice ha hn hc,.string path,.slice ma mn mc,.slice na nn nc,.string dest,.slice A3 n3 c3,.slice none 0 0]
 have mR:New w5 (w5.alloc (.cells #[.string key,.slice ha hn hc,.string path,.slice ma mn mc,.slice na nn nc,.string dest,.slice A3 n3 c3,.slice none 0 0] 74)):=(Mod.refl _ _).alloc _
 have HX1:=hId (HX.out.new2 mR)
 have HM1:=hId (HM.out.trans mR)
 clear HX HM
 have HX:=HX1
 have HM:=HM1
 clear HX1 HM1
 have HS6:=hId (HS5.out.new mR)
 have HBR:=hId bR
 clear HS5 mR bR
 generalize w5.alloc (.cells #[.string key,.slice ha hn hc,.string path,.slice ma mn mc,.slice na nn nc,.string dest,.slice A3 n3 c3,.slice none 0 0] 74)=w6 at *
 have HYB:Hid (w.heap.size≤w5.heap.size):=hId (by have h1:=HM5S.out;exact h1)
 generalize w5.heap.size=yb at *
 have hde:=HDE.out
 by_cases g5:dest=⟨#[]⟩
 ·rw [decide_eq_true g5]at hde
  rw [if_pos g5]at HF
  have HE5:=hId g5
  clear g5
  have e0:=HX.out.cell 0
  have e1:=HX.out.cell 1
  have e2:=HX.out.cell 2
  have e3:=HX.out.cell 3
  have e4:=HX.out.cell 4
  have e5:=HX.out.cell 5
  have el:=HX.out.lt
  simp only [lqt,lqz,lqs]at e0 e1 e2 e3 e4 e5
  go_wp2_with fail
  go_ret2
  exact HRE2.out yb w6 0 A3 n3 c3 none 0 0 HF.out HM.out HYB.out HS6.out (by rw [if_pos HE5.out];exact Sl.nil) b3 (by omega) HBR.out
 rw [decide_eq_false g5]at hde
 rw [if_neg g5]at HF
 have HE5:=hId g5
 clear g5
 have q:=HQD.out _ HM.out
 have e0:=HX.out.cell 0
 have e1:=HX.out.cell 1
 have e2:=HX.out.cell 2
 have e3:=HX.out.cell 3
 have e4:=HX.out.cell 4
 have e5:=HX.out.cell 5
 have el:=HX.out.lt
 simp only [lqt,lqz,lqs]at e0 e1 e2 e3 e4 e5
 go_wp2_with fail
 clear e0 e1 e2 e3 e4 e5 el
 refine q.mono ?_
 clear q
 rintro e w7 ⟨A7,n7,c7,rfl,s7,m7,b7⟩
 have HX1:=hId (HX.out.new2 m7)
 have HM1:=hId (HM.out.trans m7)
 clear HX HM
 have HX:=HX1
 have HM:=HM1
 clear HX1 HM1
 have HS7:=hId (HS6.out.new m7)
 have HD7:=hId s7
 have HBR7:=hId (HBR.out.new2 m7)
 clear m7 s7 HS6 HBR
 have d7:=HBR7.out.cell 7
 have dl:=HBR7.out.lt
 have df:=HBR7.out.frozen
 simp only [lqt,lqz,lqs]at d7
 go_upto_region 19 with(fail)
 clear d7 dl df
 have HO:Hid (Mod (fun k=>k=yb) w7 (w7.setCell ⟨yb,7,none⟩ (.slice A7 n7 c7))):=hId (Mod.setCell (S:=fun k=>k=yb) (p:=⟨yb,7,none⟩) (Mod.refl _ _) (.inl rfl) _)
 have HM8:=hId (HM.out.step HO.out (fun i hi e=>by have:=HYB.out;omega))
 have HB8:=hId (HBR7.out.set 7 (.slice A7 n7 c7))
 simp only [Array.setIfInBounds,List.size_toArray,List.length_cons,List.length_nil,Nat.reduceAdd,Nat.reduceLT,↓reduceDIte,List.set_toArray,lsz,lss]at HB8
 have HS8:=hId (HS7.out.mod HO.out (fun g hg e=>(HBR7.out.tb.ne hg (by decide)) e.symm))
 have HD8:=hId (HD7.out.mod HO.out (fun g hg e=>(HBR7.out.tb.ne hg (by decide)) e.symm))
 clear HX HM HS7 HD7 HBR7 HO
 generalize w7.setCell ⟨yb,7,none⟩ (.slice A7 n7 c7)=w8 at *
 by_cases g6:de≠0
 ·have g6b:(de == 0)=false:=by simpa using g6
  rw [if_pos g6]at HF
  have HN6:=hId g6
  clear g6
  go_wp2_with fail
  go_ret2
  exact HRET.out _ _ _ HF.out HN6.out HM8.out
 have g6b:(de == 0)=true:=by simpa using g6
 rw [if_neg g6]at HF
 clear g6
 have q:=rt_toFault A3 A7 n3 c3 n7 c7 pl dls w8 HS8.out HD8.out b3 b7
 have d7:=HB8.out.cell 7
 have dl:=HB8.out.lt
 simp only [lqt,lqz,lqs]at d7
 go_wp2_with fail
 refine q.mono ?_
 clear q
 rintro e w9 ⟨rfl,m9⟩
 have HM9:=hId (HM8.out.trans m9)
 have HB9:=hId (HB8.out.new2 m9)
 have HS9:=hId (HS8.out.new m9)
 have HD9:=hId (HD8.out.new m9)
 go_wp2_with fail
 go_ret2
 exact HRE2.out yb w9 _ A3 n3 c3 A7 n7 c7 HF.out HM9.out HYB.out HS9.out (by rw [if_neg HE5.out];exact HD9.out) b3 b7 HB9.out
/-- the eight cells of a ready route -/
def RRank (q:Nat×Nat×Bool) (w:World) (e:Ending) (w':World):Prop:=e= .returned (.tuple #[.int .i64 (q.1:Int),.int .i64 (q.2.1:Int),.bool q.2.2])∧New w w'
theorem any_takeB {p:ByteArray→Bool} {l:List ByteArray} {k:Nat} (h:k<l.length) (h0:(l.take k).any p=false):(l.take (k+1)).any p=p l[k]:=by
 rw [List.take_succ_eq_append_getElem h,List.any_append,h0];simp
theorem any_hitB {p:ByteArray→Bool} {l:List ByteArray} {k:Nat} (h:k<l.length) (h1:p l[k]=true):l.any p=true:=List.any_eq_true.2 ⟨_,List.getElem_mem h,h1⟩
set_option maxRecDepth 100000 in
set_option maxHeartbeats 1500000 in
theorem rt_hostRank (g:Nat) (y:RdA) (r:RtD) (host:ByteArray) (w:World) (h:RdyAt w g y r) (hz:∀ x∈r.hosts,x.size≤100000) (hh:host.size≤100000) (hn:r.hosts.length≤1000):
  Calls Tryz.prog 152 #[.pointer (some ⟨g,0,none⟩),.string host] w (RRank (rankH r.hosts host) w):=by
 have HS:=hId h.rt.hosts
 have hl:=h.rt.hosts.1
 have r0:=h.b.cell 0
 have r1:=h.b.cell 1
 have r2:=h.b.cell 2
 have r3:=h.b.cell 3
 have r4:=h.b.cell 4
 have r5:=h.b.cell 5
 have r6:=h.b.cell 6
 have r7:=h.b.cell 7
 have rl:=h.b.lt
 simp only [RdA.cells,lqt,lqz,lqs]at r0 r1 r2 r3 r4 r5 r6 r7
 obtain⟨⟨key,ha,hn',hc,path,ma,mn,mc,na,nn,nc,dest⟩,pa,pn,pc,qa,qn,qc⟩:=y
 simp only at hl HS r0 r1 r2 r3 r4 r5 r6 r7
 have HZ:=hId hz
 have HNN:=hId hn
 generalize r.hosts=hosts at *
 clear h hz r0 r2 r3 r4 r5 r6 r7
 by_cases h0:hn'=0
 ·subst h0
  have he:hosts= []:=List.eq_nil_of_length_eq_zero hl
  have HQ:Hid (rankH hosts host=(0,0,true)):=hId (by unfold rankH;rw [if_pos he])
  clear he hl
  go_enter Tryz.func152,Tryz.ntmps152
  go_wp2_with fail
  go_ret3
  exact⟨by rw [HQ.out];rfl,Mod.refl _ _⟩
 have hne:hosts≠[]:=fun e=>h0 (by rw [← hl,e];rfl)
 have h0b:((hn':Int) == 0)=false:=by simpa using h0
 have HQ:Hid (rankH hosts host=if hosts.any (exactH host) then(2,0,true) else if longH host hosts 0=0 then(0,0,false) else(1,longH host hosts 0,true)):=hId (by unfold rankH;rw [if_neg hne])
 have HL:=hId hl
 have HLE:=hId (longH_le (host:=host) hosts 0 HZ.out (by omega))
 have hn9:hn'≤1000:=by have:=HL.out;have:=HNN.out;omega
 clear hne h0 hl hn
 go_enter Tryz.func152,Tryz.ntmps152
 go_wp2_with fail
 go_loopw [4,5,6,24] (fun s4 s5 s6 i wr=>∃(k m:Nat) (rk:Int) (ok:Bool),k≤hn'∧i= .int .i64 k∧s4= .int .i64 rk∧s5= .int .i64 (m:Int)∧s6= .bool ok∧m≤100000∧Hid (rk=if m=0 then 0 else 1)∧Hid (ok=decide (m≠0))∧Hid ((hosts.take k).any (exactH host)=false)∧Hid (longH host hosts 0=longH host (hosts.drop k) m)∧Hid (New w wr)) (fun _ _ _ i _=>hn' -(intOf i).toNat)
 case atStart=>exact⟨0,0,0,false,Nat.zero_le _,rfl,rfl,rfl,rfl,Nat.zero_le _,hId rfl,hId rfl,hId rfl,hId rfl,hId (Mod.refl _ _)⟩
 case round=>
  rename World=>wr
  obtain⟨k,m,rk,ok,hk,rfl,rfl,rfl,rfl,hm,HRK,HOK,HE,HG,HM⟩:=hrel
  by_cases hlt:k<hn'
  ·have hkl:k<hosts.length:=by have:=HL.out;omega
   obtain⟨g1,o1,hA,htb,hc0⟩:=(HS.out.new HM.out).2 (by omega)
   subst hA
   have hgl:=htb.lt
   have a0:=hc0 k hkl 0 (by omega)
   simp only [sEnc,Nat.mul_one,Nat.add_zero]at a0
   have hxz:=HZ.out _ (List.getElem_mem hkl)
   have HE1:=hId (any_takeB hkl HE.out)
   have HH1:=hId (any_hitB (p:=exactH host) hkl)
   have HG1:=hId (HG.out.trans (longH_take hkl m))
   clear htb hc0 HE HG
   generalize hosts[k]=x at *
   have hb2:(0:Int)≤k:=by omega
   have hb3:(k:Int)<hn':=by omega
   have q1:=Tryz.strings_CutPrefix x ⟨#[42]⟩ wr
   rw [show (⟨#[42]⟩:ByteArray).data.toList= [42] from rfl]at q1
   have HX:Hid (exactH host x=(!Lib.hasPrefix x.data.toList [42]&&decide (x=host))):=hId rfl
   have HSM:Hid (starM host x=(Lib.hasPrefix x.data.toList [42]&&Lib.hasSuffix host.data.toList (⟨(Lib.trimPrefix x.data.toList [42]).toArray⟩:ByteArray).data.toList)):=hId rfl
   generalize (⟨(Lib.trimPrefix x.data.toList [42]).toArray⟩:ByteArray)=rest at *
   have q2:=Tryz.strings_HasSuffix host rest wr (by omega)
   generalize Lib.hasSuffix host.data.toList rest.data.toList=SF at *
   have hxe:=ba_beq x host
   have HXE:=hId hxe
   generalize hD:decide (x=host)=D at *
   clear hD
   cases hp:Lib.hasPrefix x.data.toList [42]
   ·rw [hp]at q1 HX HSM
    have HS0:Hid (starM host x=false):=hId (by rw [HSM.out];rfl)
    clear hp HSM q2
    cases D
    ·have HX0:Hid ((hosts.take (k+1)).any (exactH host)=false):=hId (by rw [HE1.out,HX.out];rfl)
     have HG2:Hid (longH host hosts 0=longH host (hosts.drop (k+1)) m):=hId (by rw [HG1.out,HS0.out];rfl)
     have hx1:=HXE.out
     clear HXE hxe HX HE1 HG1 HH1
     go_wp2_with fail
     refine q1.mono ?_
     clear q1
     rintro e w' ⟨rfl,rfl⟩
     go_wp2_with fail
     go_roundw
     case rel=>exact⟨k+1,m,rk,ok,by omega,by go_num,rfl,rfl,rfl,hm,HRK,HOK,HX0,HG2,HM⟩
     case measure=>simp [intOf];omega
    ·have HX0:Hid (rankH hosts host=(2,0,true)):=hId (by rw [HQ.out,if_pos (HH1.out HX.out)])
     have hx1:=HXE.out
     clear HXE hxe HX HE1 HG1 HH1
     go_wp2_with fail
     refine q1.mono ?_
     clear q1
     rintro e w' ⟨rfl,rfl⟩
     go_wp2_with fail
     go_ret3
     exact⟨by rw [HX0.out];rfl,HM.out⟩
   ·rw [hp]at q1 HX HSM
    have HX0:Hid ((hosts.take (k+1)).any (exactH host)=false):=hId (by rw [HE1.out,HX.out];rfl)
    clear hp HX HE1 HH1 HXE hxe
    cases SF
    ·have HG2:Hid (longH host hosts 0=longH host (hosts.drop (k+1)) m):=hId (by rw [HG1.out,HSM.out];rfl)
     clear HG1 HSM
     go_wp2_with fail
     refine q1.mono ?_
     clear q1
     rintro e w' ⟨rfl,rfl⟩
     go_wp2_with fail
     refine q2.mono ?_
     clear q2
     rintro e w' ⟨rfl,rfl⟩
     go_wp2_with fail
     go_roundw
     case rel=>exact⟨k+1,m,rk,ok,by omega,by go_num,rfl,rfl,rfl,hm,HRK,HOK,HX0,HG2,HM⟩
     case measure=>simp [intOf];omega
    ·by_cases hmx:m<x.size
     ·have HG2:Hid (longH host hosts 0=longH host (hosts.drop (k+1)) x.size):=hId (by rw [HG1.out,HSM.out];simp [hmx])
      have hmx':(m:Int)<(x.size:Int):=by omega
      clear HG1 HSM
      go_wp2_with fail
      refine q1.mono ?_
      clear q1
      rintro e w' ⟨rfl,rfl⟩
      go_wp2_with fail
      refine q2.mono ?_
      clear q2
      rintro e w' ⟨rfl,rfl⟩
      go_wp2_with fail
      go_roundw
      case rel=>exact⟨k+1,x.size,1,true,by omega,by go_num,rfl,rfl,rfl,by omega,hId (by rw [if_neg (by omega)]),hId (decide_eq_true (show x.size≠0 by omega)).symm,HX0,HG2,HM⟩
      case measure=>simp [intOf];omega
     ·have HG2:Hid (longH host hosts 0=longH host (hosts.drop (k+1)) m):=hId (by rw [HG1.out,HSM.out];simp [hmx])
      have hmx':¬ (m:Int)<(x.size:Int):=by omega
      clear HG1 HSM
      go_wp2_with fail
      refine q1.mono ?_
      clear q1
      rintro e w' ⟨rfl,rfl⟩
      go_wp2_with fail
      refine q2.mono ?_
      clear q2
      rintro e w' ⟨rfl,rfl⟩
      go_wp2_with fail
      go_roundw
      case rel=>exact⟨k+1,m,rk,ok,by omega,by go_num,rfl,rfl,rfl,hm,HRK,HOK,HX0,HG2,HM⟩
      case measure=>simp [intOf];omega
  ·obtain rfl:k=hn':=by omega
   have htk:hosts.take k=hosts:=List.take_of_length_le (by have:=HL.out;omega)
   have hdk:hosts.drop k= []:=List.drop_of_length_le (by have:=HL.out;omega)
   have HF:Hid (rankH hosts host=if m=0 then(0,0,false) else(1,m,true)):=hId (by
    have h1:=HE.out
    have h2:=HG.out
    rw [htk]at h1
    rw [hdk]at h2
    rw [HQ.out,h1,if_neg (by simp),h2]
    rfl)
   clear htk hdk
   go_wp2_with fail
   go_ret3
   refine⟨?_,HM.out⟩
   rw [HF.out,HRK.out,HOK.out]
   by_cases hm0:m=0
   ·subst hm0;rfl
   ·rw [if_neg hm0,if_neg hm0];simp [hm0]
set_option maxRecDepth 100000 in
set_option maxHeartbeats 1000000 in
theorem rt_hasMethod (g:Nat) (y:RdA) (r:RtD) (m:ByteArray) (w:World) (h:RdyAt w g y r) (hn:r.methods.length≤1000):
  Calls Tryz.prog 80 #[.pointer (some ⟨g,0,none⟩),.string m] w fun e w'=>e= .returned (.bool (methOk r m))∧New w w':=by
 have HS:=hId h.rt.methods
 have hl:=h.rt.methods.1
 have hcap:=h.rt.mcap
 have r0:=h.b.cell 0
 have r1:=h.b.cell 1
 have r2:=h.b.cell 2
 have r3:=h.b.cell 3
 have r4:=h.b.cell 4
 have r5:=h.b.cell 5
 have r6:=h.b.cell 6
 have r7:=h.b.cell 7
 have rl:=h.b.lt
 simp only [RdA.cells,lqt,lqz,lqs]at r0 r1 r2 r3 r4 r5 r6 r7
 obtain⟨⟨key,ha,hn',hc,path,ma,mn,mc,na,nn,nc,dest⟩,pa,pn,pc,qa,qn,qc⟩:=y
 simp only at hl hcap HS r0 r1 r2 r3 r4 r5 r6 r7
 have HQ:Hid (methOk r m=(decide (r.methods= [])||Lib.containsS r.methods m)):=hId rfl
 generalize r.methods=ms at *
 generalize methOk r m=R at *
 clear h r0 r1 r2 r4 r5 r6 r7
 by_cases h0:mn=0
 ·subst h0
  have he:ms= []:=List.eq_nil_of_length_eq_zero hl
  have HR:Hid (R=true):=hId (by rw [HQ.out,he];rfl)
  clear he hl
  go_enter Tryz.func80,Tryz.ntmps80
  go_wp2_with fail
  go_ret
  exact⟨by rw [HR.out];rfl,Mod.refl _ _⟩
 have hne:ms≠[]:=fun e=>h0 (by rw [← hl,e];rfl)
 have h0b:((mn:Int) == 0)=false:=by simpa using h0
 have HR:Hid (R=Lib.containsS ms m):=hId (by rw [HQ.out,decide_eq_false hne];rfl)
 have q:=contains_take ma mn mc mn ms m w HS.out (Nat.le_refl _) (by omega)
 rw [List.take_of_length_le (by omega)]at q
 generalize Lib.containsS ms m=X at *
 clear hne h0
 go_enter Tryz.func80,Tryz.ntmps80
 go_wp2_with (refine q.mono ?_;clear q;rintro e w' ⟨rfl,hw⟩;rw [hw];clear hw)
 go_ret
 exact⟨by rw [HR.out];rfl,Mod.refl _ _⟩
def HPred (w:World) (F:Nat) (cp:Value) (f:PairD→Bool):Prop:=
 ∀(p:PairD) wr,New w wr→Calls Tryz.prog F #[pairVal p,cp] wr fun e w'=>e= .returned (.bool (f p))∧New wr w'
set_option maxHeartbeats 1000000 in
theorem indexFunc_hdr (F:Nat) (cp:Value) (eg:∀ args w,(callFunc F args).run Tryz.prog w= .ok (.enter F args) w) (w:World) (A:Option Addr) (n c:Nat) (ps:List PairD) (f:PairD→Bool) (hs:HSl w A n ps) (hF:HPred w F cp f) (hn:n≤100000):
  Calls Tryz.prog 235 #[.slice A n c,.func (.func F) #[] #[cp]] w fun e w'=>e= .returned (.int .i64 (firstP (fun i=>(ps[i]?).any (f)) n))∧New w w':=by
 have HS:=hId hs
 have HF:=hId hF
 have HL:=hId hs.1
 obtain⟨b,hb⟩:∃ b:Nat→Bool,b=(fun i=>(ps[i]?).any (f)):=⟨_,rfl⟩
 rw [← hb]
 have HB:=hId hb
 clear hs hF hb
 go_enter Tryz.func235,Tryz.ntmps235
 go_wp2_with fail
 go_loopw [8] (fun i wr=>∃ k:Nat,k≤n∧i= .int .i64 k∧Hid (New w wr)∧Hid (∀ j,j<k→b j=false)) (fun i _=>n -(intOf i).toNat)
 case atStart=>exact⟨0,Nat.zero_le _,rfl,hId (Mod.refl _ _),hId (fun j hj=>absurd hj (by omega))⟩
 case round=>
  rename World=>wr
  obtain⟨k,hk,rfl,HM,HA⟩:=hrel
  by_cases hlt:k<n
  ·have hkx:k<ps.length:=by have:=HL.out;omega
   obtain⟨g,o,hA,htb,hc0⟩:=(HS.out.new HM.out).2 (by omega)
   have hgl:=htb.lt
   have hc:=fun q (hq:q<2)=>hc0 k hkx q hq
   have hbk:b k=f ps[k]:=by rw [HB.out];simp [hkx]
   have HBK:=hId hbk
   clear hc0 htb hbk
   have hcall:=HF.out ps[k] wr HM.out
   generalize ps[k]=y at *
   subst hA
   have hb1:(0:Int)≤k:=by omega
   have hb2:(k:Int)<n:=by omega
   obtain⟨yk,yn⟩:=y
   have b0:=hc 0 (by omega)
   have b1:=hc 1 (by omega)
   simp only [pairEnc,Nat.add_zero,Nat.zero_add]at b0 b1
   clear hc
   simp only [pairVal]at hcall
   generalize f (yk,yn)=r at *
   go_wp2_with fail
   refine hcall.mono ?_
   clear hcall
   rintro e w5 ⟨rfl,m5⟩
   have HM5:=hId (HM.out.trans m5)
   clear m5
   cases r with
   | true=>
    go_wp2_with fail
    go_ret
    exact⟨ret_int (firstP_hit hlt HBK.out HA.out).symm,HM5.out⟩
   | false=>
    go_wp2_with fail
    go_roundw
    case rel=>exact⟨k+1,by omega,by go_num,HM5,hId (fun j hj=>by
     by_cases e:j=k
     ·subst e;exact HBK.out
     ·exact HA.out j (by omega))⟩
    case measure=>simp [intOf];omega
  ·obtain rfl:k=n:=by omega
   go_wp2_with fail
   go_ret
   exact⟨ret_int (firstP_none HA.out).symm,HM.out⟩
set_option maxHeartbeats 1000000 in
theorem containsFunc_hdr (F:Nat) (cp:Value) (eg:∀ args w,(callFunc F args).run Tryz.prog w= .ok (.enter F args) w) (w:World) (A:Option Addr) (n c:Nat) (ps:List PairD) (f:PairD→Bool) (hs:HSl w A n ps) (hF:HPred w F cp f) (hn:n≤100000):
  Calls Tryz.prog 187 #[.slice A n c,.func (.func F) #[] #[cp]] w fun e w'=>e= .returned (.bool (ps.any f))∧New w w':=by
 have hif:=indexFunc_hdr F cp eg w A n c ps f hs hF hn
 have hany:decide (0≤firstP (fun i=>(ps[i]?).any (f)) n)=ps.any f:=by
  rw [firstP_any,←hs.1]
  exact anyRange _ _
 have HA:=hId hany
 clear hany hs hF eg
 generalize firstP (fun i=>(ps[i]?).any (f)) n=r at *
 generalize ps.any f=q at *
 go_enter Tryz.func187,Tryz.ntmps187
 go_wp2_with (first |(refine hif.mono ?_;clear hif;rintro e w' ⟨rfl,hm⟩;have hm:=hId hm))
 go_ret
 exact⟨ret_bool HA.out,hm.out⟩
def meet1 (n h:PairD):Bool:=decide (h.1=n.1)&&(decide (n.2=⟨#[42]⟩)||decide (h.2=n.2))
theorem enters_meets1 (args:Array Value) (w:World):(callFunc 207 args).run Tryz.prog w= .ok (.enter 207 args) w:=by
 go_simp
theorem enters_needs1 (args:Array Value) (w:World):(callFunc 188 args).run Tryz.prog w= .ok (.enter 188 args) w:=by
 go_simp
set_option maxHeartbeats 600000 in
theorem rt_meets1 (n h:PairD) (g:Nat) (w:World) (hg:Blk w g 52 #[.string n.1,.string n.2]):
  Calls Tryz.prog 207 #[pairVal h,.pointer (some ⟨g,0,none⟩)] w fun e w'=>e= .returned (.bool (meet1 n h))∧New w w':=by
 obtain⟨hn,hv⟩:=h
 obtain⟨nn,nv⟩:=n
 have HR:Hid (meet1 (nn,nv) (hn,hv)=(decide (hn=nn)&&(decide (nv=⟨#[42]⟩)||decide (hv=nv)))):=hId rfl
 generalize meet1 (nn,nv) (hn,hv)=R at *
 unfold pairVal
 simp only at hg ⊢
 have hm:New w (w.alloc (.cells #[.string hn,.string hv] 54)):=(Mod.refl _ _).alloc _
 have hb:=Blk.new w 54 #[.string hn,.string hv]
 have HM:=hId hm
 have hg1:=hg.mod hm (fun e=>e)
 have e1:=ba_beq hn nn
 have e2:=const_eq nv [42]
 have e3:=ba_beq hv nv
 clear hm hg
 go_enter Tryz.func207,Tryz.ntmps207
 go_upto_region 1 with(fail)
 generalize w.alloc (.cells #[.string hn,.string hv] 54)=w1 at *
 generalize w.heap.size=xb at *
 have c0:=hb.cell 0
 have c1:=hb.cell 1
 have cl:=hb.lt
 have d0:=hg1.cell 0
 have d1:=hg1.cell 1
 have dl:=hg1.lt
 simp only [lqt,lqz,lqs]at c0 c1 d0 d1
 clear hb hg1
 generalize decide (hn=nn)=D1 at *
 generalize decide (nv=⟨[42].toArray⟩)=D2 at *
 generalize decide (hv=nv)=D3 at *
 cases D1
 ·have HQ:=hId (HR.out.trans rfl)
  go_wp2_with fail
  go_ret
  exact⟨ret_bool HQ.out.symm,HM.out⟩
 ·cases D2
  ·cases D3
   ·have HQ:=hId (HR.out.trans rfl)
    go_wp2_with fail
    go_ret
    exact⟨ret_bool HQ.out.symm,HM.out⟩
   ·have HQ:=hId (HR.out.trans rfl)
    go_wp2_with fail
    go_ret
    exact⟨ret_bool HQ.out.symm,HM.out⟩
  ·have HQ:Hid (R=true):=hId (by rw [HR.out];rfl)
   go_wp2_with fail
   go_ret
   exact⟨ret_bool HQ.out.symm,HM.out⟩
set_option maxHeartbeats 600000 in
theorem ref_needs1 (n h:PairD) (g:Nat) (w:World) (hg:Blk w g 52 #[.string n.1,.string n.2]):
  Calls Tryz.prog 188 #[pairVal h,.pointer (some ⟨g,0,none⟩)] w fun e w'=>e= .returned (.bool (meet1 n h))∧New w w':=by
 obtain⟨hn,hv⟩:=h
 obtain⟨nn,nv⟩:=n
 have HR:Hid (meet1 (nn,nv) (hn,hv)=(decide (hn=nn)&&(decide (nv=⟨#[42]⟩)||decide (hv=nv)))):=hId rfl
 generalize meet1 (nn,nv) (hn,hv)=R at *
 unfold pairVal
 simp only at hg ⊢
 have hm:New w (w.alloc (.cells #[.string hn,.string hv] 54)):=(Mod.refl _ _).alloc _
 have hb:=Blk.new w 54 #[.string hn,.string hv]
 have HM:=hId hm
 have hg1:=hg.mod hm (fun e=>e)
 have e1:=ba_beq hn nn
 have e2:=const_eq nv [42]
 have e3:=ba_beq hv nv
 clear hm hg
 go_enter Tryz.func188,Tryz.ntmps188
 go_upto_region 1 with(fail)
 generalize w.alloc (.cells #[.string hn,.string hv] 54)=w1 at *
 generalize w.heap.size=xb at *
 have c0:=hb.cell 0
 have c1:=hb.cell 1
 have cl:=hb.lt
 have d0:=hg1.cell 0
 have d1:=hg1.cell 1
 have dl:=hg1.lt
 simp only [lqt,lqz,lqs]at c0 c1 d0 d1
 clear hb hg1
 generalize decide (hn=nn)=D1 at *
 generalize decide (nv=⟨[42].toArray⟩)=D2 at *
 generalize decide (hv=nv)=D3 at *
 cases D1
 ·have HQ:=hId (HR.out.trans rfl)
  go_wp2_with fail
  go_ret
  exact⟨ret_bool HQ.out.symm,HM.out⟩
 ·cases D2
  ·cases D3
   ·have HQ:=hId (HR.out.trans rfl)
    go_wp2_with fail
    go_ret
    exact⟨ret_bool HQ.out.symm,HM.out⟩
   ·have HQ:=hId (HR.out.trans rfl)
    go_wp2_with fail
    go_ret
    exact⟨ret_bool HQ.out.symm,HM.out⟩
  ·have HQ:Hid (R=true):=hId (by rw [HR.out];rfl)
   go_wp2_with fail
   go_ret
   exact⟨ret_bool HQ.out.symm,HM.out⟩
theorem all_step {p:PairD→Bool} {l:List PairD} {k:Nat} (h:k<l.length) (h0:(l.take k).all p=true):(l.take (k+1)).all p=p l[k]:=by
 rw [List.take_succ_eq_append_getElem h,List.all_append,h0];simp
theorem all_miss {p:PairD→Bool} {l:List PairD} {k:Nat} (h:k<l.length) (h1:p l[k]=false):l.all p=false:=by
 rw [Bool.eq_false_iff]
 intro e
 have:=List.all_eq_true.1 e _ (List.getElem_mem h)
 rw [h1]at this
 cases this
set_option maxRecDepth 100000 in
set_option maxHeartbeats 1000000 in
theorem rt_meets (g:Nat) (y:RdA) (r:RtD) (A:Option Addr) (n c:Nat) (heads:List PairD) (w1:World) (h:RdyAt w1 g y r) (hh:HSl w1 A n heads) (hn:n≤100000) (hr:r.needs.length≤1000):
  Calls Tryz.prog 153 #[.pointer (some ⟨g,0,none⟩),.slice A n c] w1 fun e w'=>e= .returned (.bool (meetsF r.needs heads))∧New w1 w':=by
 have HS:=hId h.rt.needs
 have hl:=h.rt.needs.1
 have r0:=h.b.cell 0
 have r1:=h.b.cell 1
 have r2:=h.b.cell 2
 have r3:=h.b.cell 3
 have r4:=h.b.cell 4
 have r5:=h.b.cell 5
 have r6:=h.b.cell 6
 have r7:=h.b.cell 7
 have rl:=h.b.lt
 simp only [RdA.cells,lqt,lqz,lqs]at r0 r1 r2 r3 r4 r5 r6 r7
 obtain⟨⟨key,ha,hn',hc,path,ma,mn,mc,na,nn,nc,dest⟩,pa,pn,pc,qa,qn,qc⟩:=y
 simp only at hl HS r0 r1 r2 r3 r4 r5 r6 r7
 have hM:meetsF r.needs heads=r.needs.all (meetH heads):=rfl
 rw [hM]
 generalize r.needs=needs at *
 have HL:=hId hl
 have HH:=hId hh
 have hnn:nn≤1000:=by omega
 clear h r0 r1 r2 r3 r5 r6 r7 hM hl hh hr
 go_enter Tryz.func153,Tryz.ntmps153
 go_wp2_with fail
 go_loopw [14] (fun i wr=>∃ k:Nat,k≤nn∧i= .int .i64 k∧Hid ((needs.take k).all (meetH heads)=true)∧Hid (New w1 wr)) (fun i _=>nn -(intOf i).toNat)
 case atStart=>exact⟨0,Nat.zero_le _,rfl,hId rfl,hId (Mod.refl _ _)⟩
 case round=>
  rename World=>wr
  obtain⟨k,hk,rfl,HE,HM⟩:=hrel
  by_cases hlt:k<nn
  ·have hkl:k<needs.length:=by have:=HL.out;omega
   obtain⟨g1,o1,hA,htb,hc0⟩:=(HS.out.new HM.out).2 (by omega)
   subst hA
   have hgl:=htb.lt
   have a0:=hc0 k hkl 0 (by omega)
   have a1:=hc0 k hkl 1 (by omega)
   simp only [pairEnc,Nat.add_zero]at a0 a1
   have HE1:=hId (all_step hkl HE.out)
   have HE0:=hId (all_miss (p:=meetH heads) hkl)
   clear htb hc0 HE
   generalize needs[k]=x at *
   have HXQ:Hid (meetH heads x=heads.any (meet1 x)):=hId rfl
   have HPR:=hId (fun (p:PairD) (pb:Nat) (W:World) (hb:Blk W pb 52 #[.string x.1,.string x.2])=>rt_meets1 x p pb W hb)
   obtain⟨xn,xv⟩:=x
   simp only at a0 a1 HPR
   have hb2:(0:Int)≤k:=by omega
   have hb3:(k:Int)<nn:=by omega
   have bp:=Blk.new wr 52 #[.string xn,.string xv]
   have mp:New wr (wr.alloc (.cells #[.string xn,.string xv] 52)):=(Mod.refl _ _).alloc _
   go_upto_region 4 with(fail)
   have HMP:=hId (HM.out.trans mp)
   have HBP:=hId bp
   clear a0 a1 bp mp hgl HM
   generalize wr.alloc (.cells #[.string xn,.string xv] 52)=w2 at *
   generalize wr.heap.size=pb at *
   have hcf:=containsFunc_hdr 207 (.pointer (some ⟨pb,0,none⟩)) enters_meets1 w2 A n c heads (meet1 (xn,xv)) (HH.out.new HMP.out) (fun p W hW=>HPR.out p pb W (HBP.out.mod hW (fun e=>e))) (by omega)
   rw [← HXQ.out]at hcf
   generalize meetH heads (xn,xv)=Q at *
   cases Q
   ·have HQ:=hId (HE0.out rfl)
    clear HE0 HE1 HXQ HPR
    go_wp2_with fail
    refine hcf.mono ?_
    clear hcf
    rintro e w3 ⟨rfl,m3⟩
    have HM3:=hId (HMP.out.trans m3)
    clear m3
    go_wp2_with fail
    go_ret
    exact⟨ret_bool HQ.out.symm,HM3.out⟩
   ·have HQ:=HE1
    clear HE0 HE1 HXQ HPR
    go_wp2_with fail
    refine hcf.mono ?_
    clear hcf
    rintro e w3 ⟨rfl,m3⟩
    have HM3:=hId (HMP.out.trans m3)
    clear m3
    go_wp2_with fail
    go_roundw
    case rel=>exact⟨k+1,by omega,by go_num,HQ,HM3⟩
    case measure=>simp [intOf];omega
  ·obtain rfl:k=nn:=by omega
   have htk:needs.take k=needs:=List.take_of_length_le (by have:=HL.out;omega)
   have HQ:Hid (needs.all (meetH heads)=true):=hId (by rw [← HE.out,htk])
   clear htk
   go_wp2_with fail
   go_ret
   exact⟨ret_bool HQ.out.symm,HM.out⟩
set_option maxRecDepth 100000 in
set_option maxHeartbeats 1500000 in
theorem ref2_segmentsOf (s:ByteArray) (w:World) (hs:s.size≤100000) (hx:MaxLn w) (he:ErrSyn w):
  Calls Tryz.prog 51 #[.string s] w (RSegs (segsOf s) w):=by
 have hp:=ref2_pathOf s w hs hx he
 by_cases h0:(pathN s).1=0
 rotate_left
 ·have HQ:Hid (segsOf s=((pathN s).1,[])):=hId (by unfold segsOf;rw [if_pos h0])
  generalize pathN s=q at *
  obtain⟨q1,q2⟩:=q
  simp only at h0 HQ
  have h0':((q1:Int) != 0)=true:=by simpa using h0
  clear h0
  go_enter Tryz.func51,Tryz.ntmps51
  go_wp2_with fail
  refine hp.mono ?_
  clear hp
  rintro e w1 ⟨rfl,hm⟩
  have HM:=hId hm
  clear hm
  simp only
  go_wp2_with fail
  go_ret2
  exact RSegs.fault HQ.out HM.out
 obtain⟨t,ht,htl⟩:=pathN_ok h0 (pathN_small h0)
 have hQ:segsOf s=if 100<(pieces ⟨t.toArray⟩ slB).length then(2,[]) else(0,(pieces ⟨t.toArray⟩ slB).map decB):=by
  unfold segsOf
  rw [if_neg (fun h=>h h0),ht]
  rfl
 unfold RTxt at hp
 rw [h0,ht]at hp
 have hext:=extract_tail t
 have hU:(⟨t.toArray⟩:ByteArray).size≤3001:=by
  show t.toArray.size≤3001
  simp only [List.size_toArray]
  omega
 have hZ1:1≤(⟨(47::t).toArray⟩:ByteArray).size:=by
  show 1≤(List.toArray (47::t)).size
  simp
 clear h0 ht htl
 generalize (⟨(47::t).toArray⟩:ByteArray)=Z at *
 generalize (⟨t.toArray⟩:ByteArray)=U at *
 have hZi:(1:Int)≤(Z.size:Int):=by omega
 have hpc:=pieces_count hU
 have hpl:=fun x (hx:x∈pieces U slB)=>Nat.le_trans (pieces_le hx) hU
 have HX:=hId hx
 have HE:=hId he
 have hsp:=fun W (h:New w W)=>split_any U 47 W (by omega) (HX.out.new h)
 have HSP:=hId hsp
 have HPL:=hId hpl
 have HQ:=hId hQ
 clear hsp hpl hQ hx he
 go_enter Tryz.func51,Tryz.ntmps51
 go_wp2_with fail
 refine hp.mono ?_
 clear hp
 rintro e w2 ⟨rfl,hm2⟩
 have hsp:=HSP.out w2 hm2
 clear HSP
 go_wp2_with fail
 refine hsp.mono ?_
 clear hsp
 rintro e w3 ⟨rfl,rfl⟩
 have hmL:New w2 (w2.alloc (.cells (strCs (pieces U slB)) 9)):=(Mod.refl _ _).alloc _
 have hL:=Blk.new w2 9 (strCs (pieces U slB))
 have HLW:Hid (w.heap.size≤w2.heap.size):=hId hm2.size
 have HM:=hId (hm2.trans hmL)
 have HL:=hId hL
 have hz3:w2.heap.size<(w2.alloc (.cells (strCs (pieces U slB)) 9)).heap.size:=by simp
 clear hmL hL hm2 hext
 generalize pieces U slB=segs at *
 generalize w2.alloc (.cells (strCs segs) 9)=w4 at *
 generalize w2.heap.size=L at *
 go_wp2_with fail
 go_loopw [6,21] (fun o i wr=>∃(k c:Nat) (A:Option Addr),k≤segs.length∧i= .int .i64 k∧o= .slice A k c∧Hid (Own wr (L+1) 9 1 sEnc A k c ((segs.take k).map decB))∧Hid (Blk wr L 9 (strCs segs))∧Hid (New w wr)) (fun _ i _=>segs.length -(intOf i).toNat)
 case atStart=>exact⟨0,0,none,Nat.zero_le _,rfl,rfl,hId (by simpa using Own.nil),HL,HM⟩
 case round=>
  clear HM HL
  rename World=>wr
  obtain⟨k,c,A,hk,rfl,rfl,HO,HL,HM⟩:=hrel
  have hLr:=HL.out.lt
  by_cases hlt:k<segs.length
  ·have hce:=strs_at HL.out k hlt
   rw [strCs_at hlt]at hce
   have hxz:=HPL.out _ (List.getElem_mem hlt)
   have hb1:(0:Int)≤k:=by omega
   have hb2:(k:Int)<segs.length:=by omega
   have htk:(segs.take (k+1)).map decB=(segs.take k).map decB++ [decB segs[k]]:=by
    rw [List.take_succ_eq_append_getElem hlt,List.map_append]
    rfl
   have HTK:=hId htk
   clear htk
   generalize segs[k]=x at *
   have hbo:=ref2_bytesOf x wr (by omega) (HE.out.new HM.out)
   go_wp2_with fail
   refine hbo.mono ?_
   clear hbo hce
   rintro e w5 ⟨rfl,hm5⟩
   have HO5:=hId (HO.out.new hm5)
   have HL5:=hId (HL.out.new2 hm5)
   have HM5:=hId (HM.out.trans hm5)
   have hL5:=HL5.out.lt
   clear HO HL HM hm5
   have hBq:L+1≤(w5.alloc (.cells #[.string (decB x)] 9)).heap.size:=by simp;omega
   have HOA:=HO5.out.alloc (.cells #[.string (decB x)] 9)
   have hBn:=Blk.new w5 9 #[.string (decB x)]
   have HOF:Hid (∀ g',blkOf A=some g'→L+1≤g'):=hId (fun g' e=>HO5.out.farP g' e)
   go_wp2_with (at_builtin;refine wpList_push rfl _ _ _ rfl 16 Tryz.underlying26 einfo_str rfl HOA (decB x) w5.heap.size rfl hBn (fun j hj=>sEnc_one _ j hj) (by omega) (by omega) hBq ?_;intro g8 cap8 w8 own8 hm8 hat8 hlt8)
   have HO8:Hid (Own w8 (L+1) 9 1 sEnc (some ⟨g8,0,none⟩) (k+1) cap8 ((segs.take (k+1)).map decB)):=hId (by rw [HTK.out];exact own8)
   have HL8:=hId ((HL5.out.new2 ((Mod.refl _ _).alloc (.cells #[.string (decB x)] 9))).mod hm8 (fun e=>by have:=HOF.out L e;omega))
   have HM8:Hid (New w w8):=hId ((HM5.out.alloc (.cells #[.string (decB x)] 9)).step hm8 (fun i hi e=>by have:=HOF.out i e;have:=HLW.out;omega))
   clear own8 hm8
   go_roundw
   case rel=>exact⟨k+1,cap8,some ⟨g8,0,none⟩,by omega,by go_num,rfl,HO8,HL8,HM8⟩
   case measure=>simp [intOf];omega
  ·obtain rfl:k=segs.length:=by omega
   have hfull:(segs.take segs.length).map decB=segs.map decB:=by rw [List.take_length]
   have ho:=HO.out
   rw [hfull]at ho
   have HO2:=hId ho
   clear ho hfull HO hlt
   by_cases h100:100<segs.length
   ·have h100':(100:Int)<(segs.length:Int):=by omega
    have HQ1:Hid (segsOf s=(2,[])):=hId (by rw [HQ.out,if_pos h100])
    clear HQ
    go_wp2_with fail
    go_ret2
    exact RSegs.fault HQ1.out HM.out
   ·have h100':¬ (100:Int)<(segs.length:Int):=by omega
    have HQ1:Hid (segsOf s=(0,segs.map decB)):=hId (by rw [HQ.out,if_neg h100])
    clear HQ
    go_wp2_with fail
    go_ret2
    exact⟨A,segs.length,c,by rw [HQ1.out];rfl,by rw [HQ1.out];exact HO2.out.sl,HM.out,HO2.out.ncap⟩
end Go.Proofs.YtnlloaimplgjnaaGreatDoor
