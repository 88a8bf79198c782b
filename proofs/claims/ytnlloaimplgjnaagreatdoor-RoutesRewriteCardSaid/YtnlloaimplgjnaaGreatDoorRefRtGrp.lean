/- Several texts in one. (1) The reference: RouteFault. Conditions: texts of modest size; the library's variables lie as they should. (Session 13's end: under way.) (2) The law's own helper: package route reads templates (routed). Conditions: the library's variable on searching is an int. -/
import Derived.Test.YtnlloaimplgjnaaGreatDoorRtMk3Grp
import Derived.Test.YtnlloaimplgjnaaGreatDoorHdrFGrp
import Derived.Test.YtnlloaimplgjnaaGreatDoorCasedGrp
import Derived.Test.YtnlloaimplgjnaaGreatDoorMatchedGrp
import Derived.Test.YtnlloaimplgjnaaGreatDoorAskGrp
import Derived.Test.YtnlloaimplgjnaaGreatDoorTpl3Grp
namespace Go.Proofs.YtnlloaimplgjnaaGreatDoor
open Go.RowKit
set_option linter.unusedVariables false
set_option linter.unusedSimpArgs false
theorem starOff_size (s:ByteArray):(starOff s).size≤s.size:=by
 show(Lib.trimPrefix s.data.toList [42,46]).toArray.size≤_
 have:(Lib.trimPrefix s.data.toList [42,46]).length≤s.data.toList.length:=by
  unfold Lib.trimPrefix
  split
  ·rw [List.length_drop];omega
  ·exact Nat.le_refl _
 have h2:s.data.toList.length=s.size:=rfl
 simp
 omega
theorem cased_up (x:ByteArray):(x.toList == (⟨(x.data.toList.map (caseC false)).toArray⟩:ByteArray).toList)=noLow x.data.toList:=by
 rw [← upper_self,ByteArray.toList_eq,ByteArray.toList_eq,Bool.eq_iff_iff]
 simp only [beq_iff_eq,decide_eq_true_eq]
 have e:x.data.toList.map (caseC false)=Lib.toUpperA x.data.toList:=rfl
 rw [e]
 constructor
 ·intro h;exact(by simpa using h.symm)
 ·intro h;simp [h]
theorem cased_down (x:ByteArray):(x.toList == (⟨(x.data.toList.map (caseC true)).toArray⟩:ByteArray).toList)=noUp x.data.toList:=by
 rw [← lower_self,ByteArray.toList_eq,ByteArray.toList_eq,Bool.eq_iff_iff]
 simp only [beq_iff_eq,decide_eq_true_eq]
 have e:x.data.toList.map (caseC true)=Lib.toLowerA x.data.toList:=rfl
 rw [e]
 constructor
 ·intro h;exact(by simpa using h.symm)
 ·intro h;simp [h]
set_option maxRecDepth 100000 in
set_option maxHeartbeats 1000000 in
theorem ref_routeFault (x:RA) (r:RtD) (w:World) (h:RtAt w x r) (hz:RtShort r) (hx:MaxLn w) (hT:Pow10 w):Calls Tryz.prog 10 #[x.val] w fun e w'=>e= .returned (.int .i64 (routeF r))∧New w w':=by
 obtain⟨k1,k2,k3,h1,h2,h3,c1,c2,c3⟩:=h
 obtain⟨z1,z2,z3,⟨z4,z5⟩,⟨z6,z7⟩,⟨z8,z9⟩⟩:=hz
 obtain⟨key,ha,hn,hc,path,ma,mn,mc,na,nn,nc,dest⟩:=x
 simp only at k1 k2 k3 h1 h2 h3 c1 c2 c3
 subst k1 k2 k3
 simp only [RA.val]
 have l1:=h1.1
 have l2:=h2.1
 have l3:=h3.1
 have HH1:=hId h1
 have HH2:=hId h2
 have HH3:=hId h3
 have HZ5:=hId z5
 have HZ7:=hId z7
 have HZ9:=hId z9
 have HCAP:Hid (hn≤hc∧mn≤mc∧nn≤nc):=hId ⟨c1,c2,c3⟩
 have HLN:Hid (r.hosts.length=hn∧r.methods.length=mn∧r.needs.length=nn):=hId ⟨l1,l2,l3⟩
 have HXM:=hId hx
 have HTM:=hId hT
 have HQP:=hId (fun W (h:New w W)=>ref_templateOf r.path W z2 (hx.new h))
 have HQD:=hId (fun W (h:New w W)=>ref_templateOf r.dest W z3 (hx.new h))
 have HF:Hid (routeF r=if !isKey r.key then 5 else if hostsF r.hosts≠0 then hostsF r.hosts else if (tplOf r.path).1≠0 then(tplOf r.path).1 else
  if methodsF r.methods≠0 then methodsF r.methods else if needsF r.needs≠0 then needsF r.needs else
  if r.dest=⟨#[]⟩ then 0 else if (tplOf r.dest).1≠0 then(tplOf r.dest).1 else toF (tplOf r.path).2 (tplOf r.dest).2):=hId rfl
 have HDE:=hId (str_nil r.dest)
 clear h1 h2 h3 z3 z4 z5 z6 z7 z8 z9 hx hT l1 l2 l3
 generalize tplOf r.path=P at *
 generalize tplOf r.dest=D at *
 obtain⟨pe,pl⟩:=P
 obtain⟨de,dls⟩:=D
 simp only at HF
 have hkk:=fun W=>ref_key r.key W (by unfold maxLen;omega)
 have HKK:=hId hkk
 clear hkk
 obtain⟨key,hosts,path,methods,needs,dest⟩:=r
 simp only at HQP HQD HF HDE HKK z1 z2 HH1 HH2 HH3 HZ5 HZ7 HZ9 HLN ⊢
 obtain⟨R,hR⟩:∃ R:Int,routeF ⟨key,hosts,path,methods,needs,dest⟩=R:=⟨_,rfl⟩
 rw [hR]at HF
 rw [hR]
 clear hR
 have hb:=Blk.new w 29 #[.string key,.slice ha hn hc,.string path,.slice ma mn mc,.slice na nn nc,.string dest]
 have hm:New w (w.alloc (.cells #[.string key,.slice ha hn hc,.string path,.slice ma mn mc,.slice na nn nc,.string dest] 29)):=(Mod.refl _ _).alloc _
 go_enter Tryz.func10,Tryz.ntmps10
 go_upto_region 1 with(fail)
 have HX:=hId hb
 have HM:=hId hm
 clear hb hm
 generalize w.alloc (.cells #[.string key,.slice ha hn hc,.string path,.slice ma mn mc,.slice na nn nc,.string dest] 29)=w1 at *
 generalize w.heap.size=xb at *
 have q:=HKK.out w1
 cases hk:isKey key
 ·rw [hk]at q HF
  have HE:=hId (HF.out.trans rfl)
  clear hk HF
  have e0:=HX.out.cell 0
  have e1:=HX.out.cell 1
  have e2:=HX.out.cell 2
  have e3:=HX.out.cell 3
  have e4:=HX.out.cell 4
  have e5:=HX.out.cell 5
  have el:=HX.out.lt
  simp only [lqt,lqz,lqs]at e0 e1 e2 e3 e4 e5
  go_wp2_with fail
  refine q.mono ?_
  clear q
  rintro e w2 ⟨rfl,rfl⟩
  go_wp2_with fail
  go_ret
  exact⟨ret_int HE.out.symm,HM.out⟩
 rw [hk]at q HF
 simp only [Bool.not_true,Bool.false_eq_true,if_false]at HF
 clear hk
 have e0:=HX.out.cell 0
 have e1:=HX.out.cell 1
 have e2:=HX.out.cell 2
 have e3:=HX.out.cell 3
 have e4:=HX.out.cell 4
 have e5:=HX.out.cell 5
 have el:=HX.out.lt
 simp only [lqt,lqz,lqs]at e0 e1 e2 e3 e4 e5
 go_wp2_with fail
 clear e0 e1 e2 e3 e4 e5 el
 refine q.mono ?_
 clear q
 rintro e w2 ⟨rfl,rfl⟩
 -- the hosts
 by_cases hb:20<hn
 ·have hb':(20:Int)<hn:=by omega
  have HE:Hid (R=2):=hId (by
   have:hostsF hosts=2:=by unfold hostsF;rw [if_pos (by have:=HLN.out.1;omega)]
   rw [HF.out,this];rfl)
  have e0:=HX.out.cell 0
  have e1:=HX.out.cell 1
  have e2:=HX.out.cell 2
  have e3:=HX.out.cell 3
  have e4:=HX.out.cell 4
  have e5:=HX.out.cell 5
  have el:=HX.out.lt
  simp only [lqt,lqz,lqs]at e0 e1 e2 e3 e4 e5
  go_wp2_with fail
  go_ret
  exact⟨ret_int HE.out.symm,HM.out⟩
 have hb':¬ (20:Int)<hn:=by omega
 have HHR:Hid (hostsF hosts=eachF hostF (hosts.take 0) (hosts.drop 0)):=hId (by unfold hostsF;rw [if_neg (by have:=HLN.out.1;omega)];rfl)
 clear hb
 have HX1:=hId (fun W (h:New w1 W)=>HX.out.new2 h)
 have e0:=HX.out.cell 0
 have e1:=HX.out.cell 1
 have e2:=HX.out.cell 2
 have e3:=HX.out.cell 3
 have e4:=HX.out.cell 4
 have e5:=HX.out.cell 5
 have el:=HX.out.lt
 simp only [lqt,lqz,lqs]at e0 e1 e2 e3 e4 e5
 go_wp2_with fail
 clear e0 e1 e2 e3 e4 e5 el
 go_loopw [25] (fun i wr=>∃ k:Nat,k≤hn∧i= .int .i64 k∧Hid (hostsF hosts=eachF hostF (hosts.take k) (hosts.drop k))∧Hid (New w1 wr)) (fun i _=>hn -(intOf i).toNat)
 case atStart=>exact⟨0,Nat.zero_le _,rfl,HHR,hId (Mod.refl _ _)⟩
 clear HHR
 case round=>
  rename World=>wr
  obtain⟨k,hk,rfl,HR,HMR⟩:=hrel
  by_cases hlt:k<hn
  ·have hkl:k<hosts.length:=by have:=HLN.out.1;omega
   have HST:=hId (eachF_step hostF hkl)
   have HMM:=hId (HM.out.trans HMR.out)
   obtain⟨g,o,hA,htb,hc0⟩:=(HH1.out.new HMM.out).2 (by omega)
   have hct:=fun W (h:New w W)=>contains_take ha hn hc k hosts hosts[k] W (HH1.out.new h) (by omega) (by omega)
   have hsz:=HZ5.out _ (List.getElem_mem hkl)
   subst hA
   have hgl:=htb.lt
   have hcell:=hc0 k hkl 0 (by omega)
   simp only [Nat.mul_one,Nat.add_zero,sEnc]at hcell
   have HFF:Hid (hostF (hosts.take k) hosts[k]=if !hostPat hosts[k] then 3 else if Lib.containsS (hosts.take k) hosts[k] then 6 else 0):=hId rfl
   have HCT:=hId hct
   clear hct htb hc0
   generalize hosts[k]=x at *
   generalize Lib.containsS (hosts.take k) x=cn at *
   have hb2:(0:Int)≤k:=by omega
   have hb3:(k:Int)<hn:=by omega
   have hb4:(k:Int)≤hc:=by have:=HCAP.out.1;omega
   have htp:=fun W=>Tryz.strings_TrimPrefix x ⟨#[42,46]⟩ W
   have hst:(⟨(Lib.trimPrefix x.data.toList (⟨#[42,46]⟩:ByteArray).data.toList).toArray⟩:ByteArray)=starOff x:=rfl
   rw [hst]at htp
   have hts:=starOff_size x
   clear hst
   have HTP:=hId htp
   have HPT:Hid (hostPat x=(hostForm (starOff x)&&decide (hostN (starOff x).data.toList=(starOff x).data.toList))):=hId rfl
   have hho:=ref_hostOf (starOff x) wr (by omega) (HXM.out.new HMM.out) (HTM.out.new HMM.out)
   clear htp hts
   generalize starOff x=t at *
   have htp:=HTP.out wr
   go_wp2_with fail
   refine htp.mono ?_
   clear htp
   rintro e w3 ⟨rfl,rfl⟩
   go_wp2_with fail
   refine hho.mono ?_
   clear hho
   rintro e w3 ⟨rfl,m3⟩
   have HM3:=hId (HMM.out.trans m3)
   have HMR3:=hId (HMR.out.trans m3)
   clear m3
   cases hf:hostForm t
   ·rw [hf]at HPT
    have HE:Hid (R=3):=hId (by
     have:hostsF hosts=3:=by rw [HR.out,HST.out,HFF.out,HPT.out];rfl
     rw [HF.out,this];rfl)
    simp only [Bool.false_eq_true,if_false]
    clear hf
    go_wp2_with fail
    go_ret
    exact⟨ret_int HE.out.symm,HM3.out⟩
   rw [hf,Bool.true_and]at HPT
   simp only [if_true]
   clear hf
   have hbq:=ba_beq ⟨(hostN t.data.toList).toArray⟩ t
   have hdq:decide ((⟨(hostN t.data.toList).toArray⟩:ByteArray)=t)=decide (hostN t.data.toList=t.data.toList):=by
    rw [decide_eq_decide]
    constructor
    ·intro e
     have h:=congrArg (fun z:ByteArray=>z.data.toList) e
     simpa using h
    ·intro e
     rw [e]
   rw [hdq]at hbq
   clear hdq
   generalize decide (hostN t.data.toList=t.data.toList)=eq at *
   generalize (⟨(hostN t.data.toList).toArray⟩:ByteArray)=T at *
   have htp:=HTP.out w3
   cases eq
   ·have HE:Hid (R=3):=hId (by
     have:hostsF hosts=3:=by rw [HR.out,HST.out,HFF.out,HPT.out];rfl
     rw [HF.out,this];rfl)
    go_wp2_with fail
    refine htp.mono ?_
    clear htp
    rintro e w4 ⟨rfl,rfl⟩
    go_wp2_with fail
    go_ret
    exact⟨ret_int HE.out.symm,HM3.out⟩
   go_wp2_with fail
   refine htp.mono ?_
   clear htp
   rintro e w4 ⟨rfl,rfl⟩
   have hbx:=HX1.out _ HMR3.out
   have e1:=hbx.cell 1
   have el:=hbx.lt
   simp only [lqt,lqz,lqs]at e1
   clear hbx
   have q2:=HCT.out _ HM3.out
   cases cn
   ·have HE:Hid (hostsF hosts=eachF hostF (hosts.take (k+1)) (hosts.drop (k+1))):=hId (by rw [HR.out,HST.out,HFF.out,HPT.out];rfl)
    go_wp2_with fail
    refine q2.mono ?_
    clear q2
    rintro e w5 ⟨rfl,rfl⟩
    go_wp2_with fail
    exact⟨⟨k+1,by omega,by go_num,HE,HMR3⟩,by simp [intOf];omega⟩
   ·have HE:Hid (R=6):=hId (by
     have:hostsF hosts=6:=by rw [HR.out,HST.out,HFF.out,HPT.out];rfl
     rw [HF.out,this];rfl)
    go_wp2_with fail
    refine q2.mono ?_
    clear q2
    rintro e w5 ⟨rfl,rfl⟩
    go_wp2_with fail
    go_ret
    exact⟨ret_int HE.out.symm,HM3.out⟩
  ·obtain rfl:hn=k:=by omega
   have HH0:Hid (hostsF hosts=0):=hId (by have:=HLN.out.1;rw [HR.out,←this];exact eachF_end _ _)
   rw [HH0.out]at HF
   have HXW:=hId (HX1.out _ HMR.out)
   have HMW:=hId (HM.out.trans HMR.out)
   clear HX HM HX1 HR HMR HH0
   have HX:=HXW
   have HM:=HMW
   clear HXW HMW
   have q:=HQP.out _ HM.out
   have e0:=HX.out.cell 0
   have e1:=HX.out.cell 1
   have e2:=HX.out.cell 2
   have e3:=HX.out.cell 3
   have e4:=HX.out.cell 4
   have e5:=HX.out.cell 5
   have el:=HX.out.lt
   simp only [lqt,lqz,lqs]at e0 e1 e2 e3 e4 e5
   go_wp2_with fail
   clear e0 e1 e2 e3 e4 e5 el
   refine q.mono ?_
   clear q
   rintro e w3 ⟨A3,n3,c3,rfl,s3,m3,b3⟩
   have HX1:=hId (HX.out.new2 m3)
   have HM1:=hId (HM.out.trans m3)
   clear HX HM
   have HX:=HX1
   have HM:=HM1
   clear HX1 HM1
   have HS3:=hId s3
   clear m3 s3
   by_cases g2:pe≠0
   ·have g2b:(pe != 0)=true:=by simpa using g2
    have HE:Hid (R=pe):=hId (by rw [HF.out,if_neg (by simp),if_pos g2])
    clear g2
    go_wp2_with fail
    go_ret
    exact⟨ret_int HE.out.symm,HM.out⟩
   have g2b:(pe != 0)=false:=by simpa using g2
   rw [if_neg (by simp),if_neg g2]at HF
   clear g2
   -- the methods
   by_cases hb:20<mn
   ·have hb2:(20:Int)<mn:=by omega
    have HE:Hid (R=2):=hId (by
     have:methodsF methods=2:=by unfold methodsF;rw [if_pos (by have:=HLN.out.2.1;omega)]
     rw [HF.out,this];rfl)
    have e0:=HX.out.cell 0
    have e1:=HX.out.cell 1
    have e2:=HX.out.cell 2
    have e3:=HX.out.cell 3
    have e4:=HX.out.cell 4
    have e5:=HX.out.cell 5
    have el:=HX.out.lt
    simp only [lqt,lqz,lqs]at e0 e1 e2 e3 e4 e5
    go_wp2_with fail
    go_ret
    exact⟨ret_int HE.out.symm,HM.out⟩
   have hb2:¬ (20:Int)<mn:=by omega
   have HHR:Hid (methodsF methods=eachF methodF (methods.take 0) (methods.drop 0)):=hId (by unfold methodsF;rw [if_neg (by have:=HLN.out.2.1;omega)];rfl)
   clear hb
   have HX1:=hId (fun W (h:New w3 W)=>HX.out.new2 h)
   have e0:=HX.out.cell 0
   have e1:=HX.out.cell 1
   have e2:=HX.out.cell 2
   have e3:=HX.out.cell 3
   have e4:=HX.out.cell 4
   have e5:=HX.out.cell 5
   have el:=HX.out.lt
   simp only [lqt,lqz,lqs]at e0 e1 e2 e3 e4 e5
   go_wp2_with fail
   clear e0 e1 e2 e3 e4 e5 el
   go_loopw [67] (fun i wr=>∃ k:Nat,k≤mn∧i= .int .i64 k∧Hid (methodsF methods=eachF methodF (methods.take k) (methods.drop k))∧Hid (New w3 wr)) (fun i _=>mn -(intOf i).toNat)
   case atStart=>exact⟨0,Nat.zero_le _,rfl,HHR,hId (Mod.refl _ _)⟩
   clear HHR
   case round=>
    rename World=>wr
    obtain⟨k,hk,rfl,HR,HMR⟩:=hrel
    by_cases hlt:k<mn
    ·have hkl:k<methods.length:=by have:=HLN.out.2.1;omega
     have HST:=hId (eachF_step methodF hkl)
     have HMM:=hId (HM.out.trans HMR.out)
     obtain⟨g,o,hA,htb,hc0⟩:=(HH2.out.new HMM.out).2 (by omega)
     have hct:=fun W (h:New w W)=>contains_take ma mn mc k methods methods[k] W (HH2.out.new h) (by omega) (by omega)
     have hsz:=HZ7.out _ (List.getElem_mem hkl)
     subst hA
     have hgl:=htb.lt
     have hcell:=hc0 k hkl 0 (by omega)
     simp only [Nat.mul_one,Nat.add_zero,sEnc]at hcell
     have HFF:Hid (methodF (methods.take k) methods[k]=if !(isTok methods[k]&&noLow methods[k].data.toList) then 5 else if Lib.containsS (methods.take k) methods[k] then 6 else 0):=hId rfl
     have HCT:=hId hct
     clear hct htb hc0
     generalize methods[k]=x at *
     generalize Lib.containsS (methods.take k) x=cn at *
     have hb3:(0:Int)≤k:=by omega
     have hb4:(k:Int)<mn:=by omega
     have hb5:(k:Int)≤mc:=by have:=HCAP.out.2.1;omega
     have q:=ref_token x wr (by omega)
     have qu:=ref_cased x false wr (by omega)
     have hbq:=cased_up x
     generalize (⟨(x.data.toList.map (caseC false)).toArray⟩:ByteArray)=T at *
     generalize noLow x.data.toList=nl at *
     cases hp:isTok x
     ·rw [hp]at q HFF
      have HE:Hid (R=5):=hId (by
       have:methodsF methods=5:=by rw [HR.out,HST.out,HFF.out];rfl
       rw [HF.out,this];rfl)
      clear hp qu
      go_wp2_with fail
      refine q.mono ?_
      clear q
      rintro e w4 ⟨rfl,rfl⟩
      go_wp2_with fail
      go_ret
      exact⟨ret_int HE.out.symm,HMM.out⟩
     rw [hp]at q HFF
     clear hp
     go_wp2_with fail
     refine q.mono ?_
     clear q
     rintro e w4 ⟨rfl,rfl⟩
     go_wp2_with fail
     refine qu.mono ?_
     clear qu
     rintro e w4 ⟨rfl,m4⟩
     have HM4:=hId (HMM.out.trans m4)
     have HMR4:=hId (HMR.out.trans m4)
     clear m4
     cases nl
     ·have HE:Hid (R=5):=hId (by
       have:methodsF methods=5:=by rw [HR.out,HST.out,HFF.out];rfl
       rw [HF.out,this];rfl)
      go_wp2_with fail
      go_ret
      exact⟨ret_int HE.out.symm,HM4.out⟩
     have hbx:=HX1.out _ HMR4.out
     have e3:=hbx.cell 3
     have el:=hbx.lt
     simp only [lqt,lqz,lqs]at e3
     clear hbx
     have q2:=HCT.out _ HM4.out
     cases cn
     ·have HE:Hid (methodsF methods=eachF methodF (methods.take (k+1)) (methods.drop (k+1))):=hId (by rw [HR.out,HST.out,HFF.out];rfl)
      go_wp2_with fail
      refine q2.mono ?_
      clear q2
      rintro e w5 ⟨rfl,rfl⟩
      go_wp2_with fail
      exact⟨⟨k+1,by omega,by go_num,HE,HMR4⟩,by simp [intOf];omega⟩
     ·have HE:Hid (R=6):=hId (by
       have:methodsF methods=6:=by rw [HR.out,HST.out,HFF.out];rfl
       rw [HF.out,this];rfl)
      go_wp2_with fail
      refine q2.mono ?_
      clear q2
      rintro e w5 ⟨rfl,rfl⟩
      go_wp2_with fail
      go_ret
      exact⟨ret_int HE.out.symm,HM4.out⟩
    ·obtain rfl:mn=k:=by omega
     have HH0:Hid (methodsF methods=0):=hId (by have:=HLN.out.2.1;rw [HR.out,←this];exact eachF_end _ _)
     rw [HH0.out,if_neg (by simp)]at HF
     have HXW:=hId (HX1.out _ HMR.out)
     have HMW:=hId (HM.out.trans HMR.out)
     have HS4:=hId (HS3.out.new HMR.out)
     clear HX HM HX1 HR HMR HH0 HS3
     have HX:=HXW
     have HM:=HMW
     clear HXW HMW
     -- the needs
     by_cases hb:20<nn
     ·have hb3:(20:Int)<nn:=by omega
      have HE:Hid (R=2):=hId (by
       have:needsF needs=2:=by unfold needsF;rw [if_pos (by have:=HLN.out.2.2;omega)]
       rw [HF.out,this];rfl)
      have e0:=HX.out.cell 0
      have e1:=HX.out.cell 1
      have e2:=HX.out.cell 2
      have e3:=HX.out.cell 3
      have e4:=HX.out.cell 4
      have e5:=HX.out.cell 5
      have el:=HX.out.lt
      simp only [lqt,lqz,lqs]at e0 e1 e2 e3 e4 e5
      go_wp2_with fail
      go_ret
      exact⟨ret_int HE.out.symm,HM.out⟩
     have hb3:¬ (20:Int)<nn:=by omega
     have HHR:Hid (needsF needs=eachF needF (needs.take 0) (needs.drop 0)):=hId (by unfold needsF;rw [if_neg (by have:=HLN.out.2.2;omega)];rfl)
     clear hb
     have HX1:=hId (fun W (h:New wr W)=>HX.out.new2 h)
     have e0:=HX.out.cell 0
     have e1:=HX.out.cell 1
     have e2:=HX.out.cell 2
     have e3:=HX.out.cell 3
     have e4:=HX.out.cell 4
     have e5:=HX.out.cell 5
     have el:=HX.out.lt
     simp only [lqt,lqz,lqs]at e0 e1 e2 e3 e4 e5
     go_wp2_with fail
     clear e0 e1 e2 e3 e4 e5 el
     go_loopw [95] (fun i wq=>∃ k:Nat,k≤nn∧i= .int .i64 k∧Hid (needsF needs=eachF needF (needs.take k) (needs.drop k))∧Hid (New wr wq)) (fun i _=>nn -(intOf i).toNat)
     case atStart=>exact⟨0,Nat.zero_le _,rfl,HHR,hId (Mod.refl _ _)⟩
     clear HHR
     case round=>
      rename World=>wq
      obtain⟨k,hk,rfl,HR,HMR⟩:=hrel
      by_cases hlt:k<nn
      ·have hkl:k<needs.length:=by have:=HLN.out.2.2;omega
       have HST:=hId (eachF_step needF hkl)
       have HMM:=hId (HM.out.trans HMR.out)
       obtain⟨g,o,hA,htb,hc0⟩:=(HH3.out.new HMM.out).2 (by omega)
       have hct:=fun W (h:New w W)=>contains_pair na nn nc k needs needs[k] W (HH3.out.new h) (by omega) (by omega)
       have hsz:=HZ9.out _ (List.getElem_mem hkl)
       subst hA
       have hgl:=htb.lt
       have a0:=hc0 k hkl 0 (by omega)
       have a1:=hc0 k hkl 1 (by omega)
       simp only [pairEnc,Nat.add_zero]at a0 a1
       have HFF:Hid (needF (needs.take k) needs[k]=if !(isTok needs[k].1&&noUp needs[k].1.data.toList) then 5 else if !isFld needs[k].2 then 3 else if hasPair (needs.take k) needs[k] then 6 else 0):=hId rfl
       have HCT:=hId hct
       clear hct htb hc0
       generalize needs[k]=y at *
       obtain⟨xn,xv⟩:=y
       simp only at a0 a1 HFF hsz
       generalize hasPair (needs.take k) (xn,xv)=cn at *
       have hb4:(0:Int)≤k:=by omega
       have hb5:(k:Int)<nn:=by omega
       have hb6:(k:Int)≤nc:=by have:=HCAP.out.2.2;omega
       have bp:=Blk.new wq 52 #[.string xn,.string xv]
       have mp:New wq (wq.alloc (.cells #[.string xn,.string xv] 52)):=(Mod.refl _ _).alloc _
       go_upto_region 32 with(fail)
       have HMP:=hId (HMR.out.trans mp)
       have HBP:=hId bp
       clear a0 a1 bp mp hgl
       generalize wq.alloc (.cells #[.string xn,.string xv] 52)=w5 at *
       generalize wq.heap.size=pb at *
       have HSP:Hid (∀ W,New w5 W→W.cell? ⟨pb,0,none⟩=some (.string xn)∧W.cell? ⟨pb,1,none⟩=some (.string xv)∧pb<W.heap.size):=hId (fun W hW=>by
        have h:=HBP.out.mod hW (fun e=>e)
        exact⟨(h.cell 0).trans rfl,(h.cell 1).trans rfl,h.lt⟩)
       have hn1:New w5 w5.drew:=(Mod.refl _ _).drew
       have q:=ref_token xn w5.drew (by omega)
       have HU:=hId (fun W=>ref_cased xn true W (by omega))
       have hbq:=cased_down xn
       generalize (⟨(xn.data.toList.map (caseC true)).toArray⟩:ByteArray)=T at *
       generalize noUp xn.data.toList=nu at *
       go_cut [100] (fun s wx=>s= .bool (!(isTok xn&&nu))∧Hid (New w5 wx))
       case first=>
        have HTK:Hid (∀ b,isTok xn=b→(!(isTok xn&&nu))= !(b&&nu)):=hId (fun b e=>by rw [e])
        cases hp:isTok xn
        ·rw [hp]at q
         have HQ:=hId (HTK.out _ hp)
         clear hp HTK HU
         refine wp_region_held_ord (New w5) [2,9] [0,1,2,3,4,5,6,7,8,9,10] (by kernel_rfl) (by kernel_rfl) (fun _ _ d _ _ h=>by cases d <;> exact h) ?_ (fun hHeld=>?_)
         ·exact hn1
         simp only [List.length_cons,List.length_nil,List.drop_succ_cons,List.drop_zero]
         refine heldO_take ?_ (by rfl) (by rfl) (by rfl) (fun w hSw=>?_) ?_
         rotate_left
         ·(have hq:=HSP.out w hSw);(try simp only [lgt,lgz,lgs]);go_simp;any_goals (with_reducible rfl)
         simp only [Act.put,lgt,lgz,lgs,lzt,lsz,lss]
         refine heldO_take ?_ (by rfl) (by rfl) (by rfl) (fun w hSw=>?_) ?_
         rotate_left
         ·(have hq:=HSP.out w hSw);(try simp only [lgt,lgz,lgs]);go_simp;any_goals (with_reducible rfl)
         simp only [Act.put,lgt,lgz,lgs,lzt,lsz,lss]
         refine heldQ_step (by rfl) (by rfl) (by rfl) (fun K hK=>?_)
         go_simp
         refine q.mono ?_
         clear q
         rintro e w' ⟨rfl,rfl⟩
         go_wp2_with fail
         refine hK.out _ _ hn1 (fun hHeld=>?_)
         clear hK K hHeld
         try simp only [Act.put,lzt,lsz,lss]
         refine heldO_take ?_ (by rfl) (by rfl) (by rfl) (fun w hSw=>?_) ?_
         rotate_left
         ·(have hq:=HSP.out w hSw);(try simp only [lgt,lgz,lgs]);go_simp;any_goals (with_reducible rfl)
         simp only [Act.put,lgt,lgz,lgs,lzt,lsz,lss]
         refine heldO_take ?_ (by rfl) (by rfl) (by rfl) (fun w hSw=>?_) ?_
         rotate_left
         ·(have hq:=HSP.out w hSw);(try simp only [lgt,lgz,lgs]);go_simp;any_goals (with_reducible rfl)
         simp only [Act.put,lgt,lgz,lgs,lzt,lsz,lss]
         refine heldQ_skip (by rfl) (by rfl) (by rfl) ?_
         simp only [Act.put,lgt,lgz,lgs,lzt,lsz,lss]
         refine heldQ_skip (by rfl) (by rfl) (by rfl) ?_
         simp only [Act.put,lgt,lgz,lgs,lzt,lsz,lss]
         refine heldQ_skip (by rfl) (by rfl) (by rfl) ?_
         simp only [Act.put,lgt,lgz,lgs,lzt,lsz,lss]
         refine heldQ_skip (by rfl) (by rfl) (by rfl) ?_
         simp only [Act.put,lgt,lgz,lgs,lzt,lsz,lss]
         refine heldQ_skipC (by rfl) (by rfl) (by rfl) (by assumption) ?_
         simp only [Act.put,lgt,lgz,lgs,lzt,lsz,lss]
         refine heldQ_skip (by rfl) (by rfl) (by rfl) ?_
         simp only [Act.put,lgt,lgz,lgs,lzt,lsz,lss]
         refine heldO_nil ?_
         go_wp2_with fail
         go_meet
         case rel=>exact⟨by rw [HQ.out];rfl,hId hn1⟩
        ·rw [hp]at q
         have HQ:=hId (HTK.out _ hp)
         clear hp HTK
         refine wp_region_held_ord (New w5) [2,9] [0,1,2,3,4,5,6,7,8,9,10] (by kernel_rfl) (by kernel_rfl) (fun _ _ d _ _ h=>by cases d <;> exact h) ?_ (fun hHeld=>?_)
         ·exact hn1
         simp only [List.length_cons,List.length_nil,List.drop_succ_cons,List.drop_zero]
         refine heldO_take ?_ (by rfl) (by rfl) (by rfl) (fun w hSw=>?_) ?_
         rotate_left
         ·(have hq:=HSP.out w hSw);(try simp only [lgt,lgz,lgs]);go_simp;any_goals (with_reducible rfl)
         simp only [Act.put,lgt,lgz,lgs,lzt,lsz,lss]
         refine heldO_take ?_ (by rfl) (by rfl) (by rfl) (fun w hSw=>?_) ?_
         rotate_left
         ·(have hq:=HSP.out w hSw);(try simp only [lgt,lgz,lgs]);go_simp;any_goals (with_reducible rfl)
         simp only [Act.put,lgt,lgz,lgs,lzt,lsz,lss]
         refine heldQ_step (by rfl) (by rfl) (by rfl) (fun K hK=>?_)
         go_simp
         refine q.mono ?_
         clear q
         rintro e w' ⟨rfl,rfl⟩
         go_wp2_with fail
         refine hK.out _ _ hn1 (fun hHeld=>?_)
         clear hK K hHeld
         try simp only [Act.put,lzt,lsz,lss]
         refine heldO_take ?_ (by rfl) (by rfl) (by rfl) (fun w hSw=>?_) ?_
         rotate_left
         ·(have hq:=HSP.out w hSw);(try simp only [lgt,lgz,lgs]);go_simp;any_goals (with_reducible rfl)
         simp only [Act.put,lgt,lgz,lgs,lzt,lsz,lss]
         refine heldO_take ?_ (by rfl) (by rfl) (by rfl) (fun w hSw=>?_) ?_
         rotate_left
         ·(have hq:=HSP.out w hSw);(try simp only [lgt,lgz,lgs]);go_simp;any_goals (with_reducible rfl)
         simp only [Act.put,lgt,lgz,lgs,lzt,lsz,lss]
         refine heldO_take ?_ (by rfl) (by rfl) (by rfl) (fun w hSw=>?_) ?_
         rotate_left
         ·(have hq:=HSP.out w hSw);(try simp only [lgt,lgz,lgs]);go_simp;any_goals (with_reducible rfl)
         simp only [Act.put,lgt,lgz,lgs,lzt,lsz,lss]
         refine heldO_take ?_ (by rfl) (by rfl) (by rfl) (fun w hSw=>?_) ?_
         rotate_left
         ·(have hq:=HSP.out w hSw);(try simp only [lgt,lgz,lgs]);go_simp;any_goals (with_reducible rfl)
         simp only [Act.put,lgt,lgz,lgs,lzt,lsz,lss]
         refine heldO_take ?_ (by rfl) (by rfl) (by rfl) (fun w hSw=>?_) ?_
         rotate_left
         ·(have hq:=HSP.out w hSw);(try simp only [lgt,lgz,lgs]);go_simp;any_goals (with_reducible rfl)
         simp only [Act.put,lgt,lgz,lgs,lzt,lsz,lss]
         refine heldO_take ?_ (by rfl) (by rfl) (by rfl) (fun w hSw=>?_) ?_
         rotate_left
         ·(have hq:=HSP.out w hSw);(try simp only [lgt,lgz,lgs]);go_simp;any_goals (with_reducible rfl)
         simp only [Act.put,lgt,lgz,lgs,lzt,lsz,lss]
         refine heldQ_step (by rfl) (by rfl) (by rfl) (fun K hK=>?_)
         go_simp
         refine(HU.out _).mono ?_
         rintro e w6 ⟨rfl,m6⟩
         have hn3:New w5 w6:=hn1.trans m6
         go_wp2_with fail
         refine hK.out _ _ hn3 (fun hHeld=>?_)
         clear hK K hHeld m6
         try simp only [Act.put,lzt,lsz,lss]
         refine heldO_take ?_ (by rfl) (by rfl) (by rfl) (fun w hSw=>?_) ?_
         rotate_left
         ·(have hq:=HSP.out w hSw);(try simp only [lgt,lgz,lgs]);go_simp;any_goals (with_reducible rfl)
         simp only [Act.put,lgt,lgz,lgs,lzt,lsz,lss]
         refine heldO_nil ?_
         go_wp2_with fail
         go_meet
         case rel=>exact⟨by rw [HQ.out];cases nu <;> rfl,hId hn3⟩
       case rest=>
        rename World=>w6
        obtain⟨rfl,HM6⟩:=hcut
        clear q HU hbq hn1
        have HMA:=hId (HM.out.trans (HMP.out.trans HM6.out))
        cases hp:(isTok xn&&nu)
        ·have HE:Hid (R=5):=hId (by
          have:needsF needs=5:=by rw [HR.out,HST.out,HFF.out,hp];rfl
          rw [HF.out,this];rfl)
         clear hp
         go_wp2_with fail
         go_ret
         exact⟨ret_int HE.out.symm,HMA.out⟩
        ·rw [hp]at HFF
         simp only [Bool.not_true,Bool.false_eq_true,if_false]at HFF
         clear hp
         obtain⟨p0,p1,plt⟩:=HSP.out _ HM6.out
         have qf:=ref_field xv w6 (by omega)
         cases hf:isFld xv
         ·have HE:Hid (R=3):=hId (by
           have:needsF needs=3:=by rw [HR.out,HST.out,HFF.out,hf];rfl
           rw [HF.out,this];rfl)
          rw [hf]at qf
          clear hf
          go_wp2_with fail
          refine qf.mono ?_
          clear qf
          rintro e w7 ⟨rfl,m7⟩
          have HM7:=hId (HMA.out.trans m7)
          go_wp2_with fail
          go_ret
          exact⟨ret_int HE.out.symm,HM7.out⟩
         ·rw [hf]at HFF qf
          simp only [Bool.not_true,Bool.false_eq_true,if_false]at HFF
          clear hf
          go_wp2_with fail
          refine qf.mono ?_
          clear qf
          rintro e w7 ⟨rfl,m7⟩
          have HM7:=hId (HM6.out.trans m7)
          clear m7 p0 p1 plt
          go_upto_region 36 with(fail)
          have HSQ:Hid (∀ W,New w7 W→(W.cell? ⟨pb,0,none⟩=some (.string xn)∧W.cell? ⟨pb,1,none⟩=some (.string xv)∧pb<W.heap.size)∧W.cell? ⟨xb,4,none⟩=some (.slice (some ⟨g,o,none⟩) nn nc)∧xb<W.heap.size):=hId (fun W hW=>by
           have h:=HX1.out W ((HMP.out.trans HM7.out).trans hW)
           exact⟨HSP.out W (HM7.out.trans hW),(h.cell 4).trans rfl,h.lt⟩)
          have hn3:New w7 w7.drew:=(Mod.refl _ _).drew
          have hct:=HCT.out w7.drew ((HM.out.trans (HMP.out.trans HM7.out)).trans hn3)
          simp only [pairVal]at hct
          refine wp_region_held_ord (New w7) [5] [0,1,2,3,4,5] (by kernel_rfl) (by kernel_rfl) (fun _ _ d _ _ h=>by cases d <;> exact h) ?_ (fun hHeld=>?_)
          ·exact hn3
          simp only [List.length_cons,List.length_nil,List.drop_succ_cons,List.drop_zero]
          refine heldO_take ?_ (by rfl) (by rfl) (by rfl) (fun w hSw=>?_) ?_
          rotate_left
          ·(have hq:=HSQ.out w hSw);(try simp only [lgt,lgz,lgs]);go_simp;any_goals (with_reducible rfl)
          simp only [Act.put,lgt,lgz,lgs,lzt,lsz,lss]
          refine heldO_take ?_ (by rfl) (by rfl) (by rfl) (fun w hSw=>?_) ?_
          rotate_left
          ·(have hq:=HSQ.out w hSw);(try simp only [lgt,lgz,lgs]);go_simp;any_goals (with_reducible rfl)
          simp only [Act.put,lgt,lgz,lgs,lzt,lsz,lss]
          refine heldO_take ?_ (by rfl) (by rfl) (by rfl) (fun w hSw=>?_) ?_
          rotate_left
          ·(have hq:=HSQ.out w hSw);(try simp only [lgt,lgz,lgs]);go_simp;any_goals (with_reducible rfl)
          simp only [Act.put,lgt,lgz,lgs,lzt,lsz,lss]
          refine heldO_take ?_ (by rfl) (by rfl) (by rfl) (fun w hSw=>?_) ?_
          rotate_left
          ·(have hq:=HSQ.out w hSw);(try simp only [lgt,lgz,lgs]);go_simp;any_goals (with_reducible rfl)
          simp only [Act.put,lgt,lgz,lgs,lzt,lsz,lss]
          refine heldO_take ?_ (by rfl) (by rfl) (by rfl) (fun w hSw=>?_) ?_
          rotate_left
          ·(have hq:=HSQ.out w hSw);(try simp only [lgt,lgz,lgs]);go_simp;any_goals (with_reducible rfl)
          simp only [Act.put,lgt,lgz,lgs,lzt,lsz,lss]
          refine heldQ_step (by rfl) (by rfl) (by rfl) (fun K hK=>?_)
          go_simp
          refine hct.mono ?_
          clear hct
          rintro e w8 ⟨rfl,m8⟩
          have HN8:=hId (hn3.trans m8)
          have HMR8:=hId ((HMP.out.trans HM7.out).trans (hn3.trans m8))
          go_wp2_with fail
          refine hK.out _ _ HN8.out (fun hHeld=>?_)
          clear hK K hHeld m8 hn3
          try simp only [Act.put,lzt,lsz,lss]
          refine heldO_nil ?_
          cases cn
          ·have HE:Hid (needsF needs=eachF needF (needs.take (k+1)) (needs.drop (k+1))):=hId (by rw [HR.out,HST.out,HFF.out];rfl)
           go_wp2_with fail
           exact⟨⟨k+1,by omega,by go_num,HE,HMR8⟩,by simp [intOf];omega⟩
          ·have HE:Hid (R=6):=hId (by
            have:needsF needs=6:=by rw [HR.out,HST.out,HFF.out];rfl
            rw [HF.out,this];rfl)
           go_wp2_with fail
           go_ret
           exact⟨ret_int HE.out.symm,HM.out.trans HMR8.out⟩
      ·obtain rfl:nn=k:=by omega
       have HH0:Hid (needsF needs=0):=hId (by have:=HLN.out.2.2;rw [HR.out,←this];exact eachF_end _ _)
       rw [HH0.out,if_neg (by simp)]at HF
       have HXW:=hId (HX1.out _ HMR.out)
       have HMW:=hId (HM.out.trans HMR.out)
       have HS5:=hId (HS4.out.new HMR.out)
       clear HX HM HX1 HR HMR HH0 HS4
       have HX:=HXW
       have HM:=HMW
       clear HXW HMW
       have hde:=HDE.out
       by_cases g5:dest=⟨#[]⟩
       ·rw [decide_eq_true g5]at hde
        rw [if_pos g5]at HF
        clear g5
        have e0:=HX.out.cell 0
        have e1:=HX.out.cell 1
        have e2:=HX.out.cell 2
        have e3:=HX.out.cell 3
        have e4:=HX.out.cell 4
        have e5:=HX.out.cell 5
        have el:=HX.out.lt
        simp only [lqt,lqz,lqs]at e0 e1 e2 e3 e4 e5
        go_wp2_with fail
        go_ret
        exact⟨ret_int HF.out.symm,HM.out⟩
       rw [decide_eq_false g5]at hde
       rw [if_neg g5]at HF
       clear g5
       have q:=HQD.out _ HM.out
       have e0:=HX.out.cell 0
       have e1:=HX.out.cell 1
       have e2:=HX.out.cell 2
       have e3:=HX.out.cell 3
       have e4:=HX.out.cell 4
       have e5:=HX.out.cell 5
       have el:=HX.out.lt
       simp only [lqt,lqz,lqs]at e0 e1 e2 e3 e4 e5
       go_wp2_with fail
       clear e0 e1 e2 e3 e4 e5 el
       refine q.mono ?_
       clear q
       rintro e w7 ⟨A7,n7,c7,rfl,s7,m7,b7⟩
       have HX1:=hId (HX.out.new2 m7)
       have HM1:=hId (HM.out.trans m7)
       clear HX HM
       have HX:=HX1
       have HM:=HM1
       clear HX1 HM1
       have HS7:=hId (HS5.out.new m7)
       have HD7:=hId s7
       clear m7 s7 HS5
       by_cases g6:de≠0
       ·have g6b:(de != 0)=true:=by simpa using g6
        rw [if_pos g6]at HF
        clear g6
        go_wp2_with fail
        go_ret
        exact⟨ret_int HF.out.symm,HM.out⟩
       have g6b:(de != 0)=false:=by simpa using g6
       rw [if_neg g6]at HF
       clear g6
       have q1:=ref_toFault 44 (fun a _=>!a) 8 enters_rf1 call_rf1 A3 A7 n3 c3 n7 c7 pl dls w7 HS7.out HD7.out b3 b7
       go_wp2_with fail
       refine q1.mono ?_
       clear q1
       rintro e w8 ⟨rfl,m8⟩
       have HM8:=hId (HM.out.trans m8)
       have q2:=ref_toFault 45 (fun _ b=>b) 10 enters_rf2 call_rf2 A3 A7 n3 c3 n7 c7 pl dls w8 (HS7.out.new m8) (HD7.out.new m8) b3 b7
       clear m8
       obtain⟨R1,hR1⟩:∃ R1:Int,(if dls.any (fun p=>decide (p.kind≠1)&& !hasP pl p.name)=true then(8:Int) else 0)=R1:=⟨_,rfl⟩
       obtain⟨R2,hR2⟩:∃ R2:Int,(if dls.any (fun p=>decide (p.kind≠1)&&otherK pl p)=true then(10:Int) else 0)=R2:=⟨_,rfl⟩
       rw [hR2]at q2
       have HR1:=hId hR1
       have HR2:=hId hR2
       simp only [hR1]
       clear hR1 hR2
       go_wp2_with fail
       refine q2.mono ?_
       clear q2
       rintro e w9 ⟨rfl,m9⟩
       have m10:New w9 (w9.alloc (.cells #[.int .i64 R1,.int .i64 R2] 37)):=(Mod.refl _ _).alloc _
       have q3:=cmpOr_any [R1,R2] w9.heap.size 2 _ (Blk.new w9 37 #[.int .i64 R1,.int .i64 R2]) rfl (by omega)
       have HM10:=hId ((HM8.out.trans m9).trans m10)
       have HE:Hid (orL [R1,R2]=R):=hId (by
        rw [HF.out,←HR1.out,←HR2.out]
        unfold toF orL orL orL
        by_cases h1:dls.any (fun p=>decide (p.kind≠1)&& !hasP pl p.name)=true
        ·rw [if_pos h1,if_pos h1];rfl
        ·rw [if_neg h1,if_neg h1,if_pos rfl]
         by_cases h2:dls.any (fun p=>decide (p.kind≠1)&&otherK pl p)=true
         ·rw [if_pos h2,if_neg (by decide)]
         ·rw [if_neg h2,if_pos rfl])
       clear m9 m10
       go_wp2_with fail
       refine q3.mono ?_
       clear q3
       rintro e w11 ⟨rfl,rfl⟩
       go_wp2_with fail
       go_ret
       exact⟨ret_int HE.out,HM10.out⟩
theorem tplOf_a:tplOf ⟨#[47,97]⟩=(0,[⟨1,⟨#[97]⟩⟩]):=by kernel_rfl
set_option maxHeartbeats 1000000 in
theorem routed_true (w:World) (hx:MaxLn w):
  Calls Tryz.prog 16 #[] w fun e w'=>e= .returned (.bool true)∧New w w':=by
 have hp:=route_parseTemplate ⟨#[47,97]⟩ w (by decide) hx
 rw [tplOf_a]at hp
 go_enter Tryz.func16,Tryz.ntmps16
 go_wp2_with fail
 refine hp.mono ?_
 clear hp
 rintro e w2 ⟨A,n,c,rfl,hsl,hm,hn⟩
 have h1:1=n:=hsl.1
 subst h1
 obtain⟨g,o,rfl,htb,hc⟩:=hsl.2 (by decide)
 have c0:=hc 0 (by decide) 0 (by decide)
 have c1:=hc 0 (by decide) 1 (by decide)
 have hgl:=htb.lt
 simp only [lgz,PartD.enc,Nat.zero_mul,Nat.add_zero,Nat.zero_add]at c0 c1
 have HM:=hId hm
 clear hc htb hsl hm
 go_wp2_with fail
 go_ret
 exact⟨rfl,HM.out⟩
end Go.Proofs.YtnlloaimplgjnaaGreatDoor
