/- Several texts in one. (1) What is wrong with headers: the program's check and the reference's. Conditions: texts of modest size. (2) What is wrong with the form of a query: the program's check and the reference's. Conditions: texts of modest size. (3) Hosts: the program's isHost and NormalHost (package message). Conditions: a text of modest size; the library's variable on searching is an int. (4) The reference: HostOf (gateref2). Conditions: a text of modest size; the library's variables lie as they should. -/
import Derived.Test.YtnlloaimplgjnaaGreatDoorPairGrp
import Derived.Test.YtnlloaimplgjnaaGreatDoorRtLawGrp
import Derived.Test.YtnlloaimplgjnaaGreatDoorNumMGrp
namespace Go.Proofs.YtnlloaimplgjnaaGreatDoor
open Go.RowKit
set_option linter.unusedVariables false
set_option linter.unusedSimpArgs false
theorem headsF_step {ls:List PairD} {k:Nat} (h:k<ls.length) (h0:headsF ls=eachF (fun _ p=>hdrF p) (ls.take k) (ls.drop k)):∀ v,hdrF ls[k]=v→headsF ls=if v≠0 then v else eachF (fun _ p=>hdrF p) (ls.take (k+1)) (ls.drop (k+1)):=by
 intro v e
 rw [h0,eachF_step _ h]
 show(if hdrF ls[k]≠0 then hdrF ls[k] else _)=_
 rw [e]
set_option maxRecDepth 100000 in
set_option maxHeartbeats 1000000 in
theorem msg_checkHeaders (A:Option Addr) (n c:Nat) (ls:List PairD) (w:World) (h:HSl w A n ls) (hn:n≤100000) (hz:∀ p∈ls,p.1.size≤800000∧p.2.size≤800000):
  Calls Tryz.prog 203 #[.slice A n c] w fun e w'=>e= .returned (.int .i64 (headsF ls))∧New w w':=by
 have hl:=h.1
 by_cases hb:50<n
 ·have hb':(50:Int)<n:=by omega
  have HR:Hid (headsF ls=2):=hId (by unfold headsF;rw [if_pos (by omega)])
  go_enter Tryz.func203,Tryz.ntmps203
  go_wp2_with fail
  go_ret
  exact⟨ret_int HR.out.symm,Mod.refl _ _⟩
 ·have hb':¬ (50:Int)<n:=by omega
  have HR:Hid (headsF ls=eachF (fun _ p=>hdrF p) (ls.take 0) (ls.drop 0)):=hId (by unfold headsF;rw [if_neg (by omega)];rfl)
  have HS:=hId h
  have HZ:=hId hz
  have HL:=hId hl
  clear h hz hl hb
  go_enter Tryz.func203,Tryz.ntmps203
  go_wp2_with fail
  go_loopw [10] (fun i wr=>∃ k:Nat,k≤n∧i= .int .i64 k∧Hid (headsF ls=eachF (fun _ p=>hdrF p) (ls.take k) (ls.drop k))∧Hid (New w wr)) (fun i _=>n -(intOf i).toNat)
  case atStart=>exact⟨0,Nat.zero_le _,rfl,HR,hId (Mod.refl _ _)⟩
  clear HR
  case round=>
   rename World=>wr
   obtain⟨k,hk,rfl,HR,HM⟩:=hrel
   by_cases hlt:k<n
   ·have hkl:k<ls.length:=by have:=HL.out;omega
    have HST:=hId (headsF_step hkl HR.out)
    obtain⟨g,o,hA,htb,hc0⟩:=(HS.out.new HM.out).2 (by omega)
    have hsz:=HZ.out _ (List.getElem_mem hkl)
    subst hA
    have hgl:=htb.lt
    have a0:=hc0 k hkl 0 (by omega)
    have a1:=hc0 k hkl 1 (by omega)
    simp only [pairEnc,Nat.add_zero]at a0 a1
    have HFF:Hid (hdrF ls[k]=if !isTok ls[k].1 then 5 else if !isFld ls[k].2 then 3 else 0):=hId rfl
    clear htb hc0 HR
    generalize ls[k]=x at *
    obtain⟨xn,xv⟩:=x
    simp only at a0 a1 HFF hsz
    have hb2:(0:Int)≤k:=by omega
    have hb3:(k:Int)<n:=by omega
    have bp:=Blk.new wr 54 #[.string xn,.string xv]
    have mp:New wr (wr.alloc (.cells #[.string xn,.string xv] 54)):=(Mod.refl _ _).alloc _
    go_upto_region 6 with(fail)
    have HMP:=hId (HM.out.trans mp)
    have HBP:=hId bp
    clear a0 a1 bp mp hgl
    generalize wr.alloc (.cells #[.string xn,.string xv] 54)=w1 at *
    generalize wr.heap.size=pb at *
    have e0:=HBP.out.cell 0
    have e1:=HBP.out.cell 1
    have el:=HBP.out.lt
    simp only [lqt,lqz,lqs]at e0 e1
    have q:=msg_isToken xn w1 (by first |(unfold maxLen;omega) | omega)
    have qf:=msg_isField xv w1 (by omega)
    cases hp:isTok xn
    ·rw [hp]at q HFF
     have HQ:=hId (HST.out 5 HFF.out)
     clear hp HFF qf
     go_wp2_with fail
     refine q.mono ?_
     clear q
     rintro e w' ⟨rfl,rfl⟩
     go_wp2_with fail
     go_ret
     exact⟨ret_int (HQ.out.trans rfl).symm,HMP.out⟩
    ·rw [hp]at q HFF
     clear hp
     cases hv:isFld xv
     ·rw [hv]at qf HFF
      have HQ:=hId (HST.out 3 HFF.out)
      clear hv HFF
      go_wp2_with fail
      refine q.mono ?_
      clear q
      rintro e w' ⟨rfl,rfl⟩
      go_wp2_with fail
      refine qf.mono ?_
      clear qf
      rintro e w2 ⟨rfl,m2⟩
      have HM2:=hId (HMP.out.trans m2)
      clear m2
      go_wp2_with fail
      go_ret
      exact⟨ret_int (HQ.out.trans rfl).symm,HM2.out⟩
     ·rw [hv]at qf HFF
      have HQ:=hId ((HST.out 0 HFF.out).trans (if_neg (by simp)))
      clear hv HFF
      go_wp2_with fail
      refine q.mono ?_
      clear q
      rintro e w' ⟨rfl,rfl⟩
      go_wp2_with fail
      refine qf.mono ?_
      clear qf
      rintro e w2 ⟨rfl,m2⟩
      have HM2:=hId (HMP.out.trans m2)
      clear m2
      go_wp2_with fail
      go_roundw
      case rel=>exact⟨k+1,by omega,by go_num,HQ,HM2⟩
      case measure=>simp [intOf];omega
   ·obtain rfl:k=n:=by omega
    have HQ:Hid (headsF ls=0):=hId (by have:=HL.out;rw [HR.out,←this];exact eachF_end _ _)
    go_wp2_with fail
    go_ret
    exact⟨ret_int HQ.out.symm,HM.out⟩
set_option maxRecDepth 100000 in
set_option maxHeartbeats 1000000 in
theorem ref_headersFault (A:Option Addr) (n c:Nat) (ls:List PairD) (w:World) (h:HSl w A n ls) (hn:n≤100000) (hz:∀ p∈ls,p.1.size≤800000∧p.2.size≤800000):
  Calls Tryz.prog 109 #[.slice A n c] w fun e w'=>e= .returned (.int .i64 (headsF ls))∧New w w':=by
 have hl:=h.1
 by_cases hb:50<n
 ·have hb':(50:Int)<n:=by omega
  have HR:Hid (headsF ls=2):=hId (by unfold headsF;rw [if_pos (by omega)])
  go_enter Tryz.func109,Tryz.ntmps109
  go_wp2_with fail
  go_ret
  exact⟨ret_int HR.out.symm,Mod.refl _ _⟩
 ·have hb':¬ (50:Int)<n:=by omega
  have HR:Hid (headsF ls=eachF (fun _ p=>hdrF p) (ls.take 0) (ls.drop 0)):=hId (by unfold headsF;rw [if_neg (by omega)];rfl)
  have HS:=hId h
  have HZ:=hId hz
  have HL:=hId hl
  clear h hz hl hb
  go_enter Tryz.func109,Tryz.ntmps109
  go_wp2_with fail
  go_loopw [10] (fun i wr=>∃ k:Nat,k≤n∧i= .int .i64 k∧Hid (headsF ls=eachF (fun _ p=>hdrF p) (ls.take k) (ls.drop k))∧Hid (New w wr)) (fun i _=>n -(intOf i).toNat)
  case atStart=>exact⟨0,Nat.zero_le _,rfl,HR,hId (Mod.refl _ _)⟩
  clear HR
  case round=>
   rename World=>wr
   obtain⟨k,hk,rfl,HR,HM⟩:=hrel
   by_cases hlt:k<n
   ·have hkl:k<ls.length:=by have:=HL.out;omega
    have HST:=hId (headsF_step hkl HR.out)
    obtain⟨g,o,hA,htb,hc0⟩:=(HS.out.new HM.out).2 (by omega)
    have hsz:=HZ.out _ (List.getElem_mem hkl)
    subst hA
    have hgl:=htb.lt
    have a0:=hc0 k hkl 0 (by omega)
    have a1:=hc0 k hkl 1 (by omega)
    simp only [pairEnc,Nat.add_zero]at a0 a1
    have HFF:Hid (hdrF ls[k]=if !isTok ls[k].1 then 5 else if !isFld ls[k].2 then 3 else 0):=hId rfl
    clear htb hc0 HR
    generalize ls[k]=x at *
    obtain⟨xn,xv⟩:=x
    simp only at a0 a1 HFF hsz
    have hb2:(0:Int)≤k:=by omega
    have hb3:(k:Int)<n:=by omega
    have bp:=Blk.new wr 54 #[.string xn,.string xv]
    have mp:New wr (wr.alloc (.cells #[.string xn,.string xv] 54)):=(Mod.refl _ _).alloc _
    go_upto_region 6 with(fail)
    have HMP:=hId (HM.out.trans mp)
    have HBP:=hId bp
    clear a0 a1 bp mp hgl
    generalize wr.alloc (.cells #[.string xn,.string xv] 54)=w1 at *
    generalize wr.heap.size=pb at *
    have e0:=HBP.out.cell 0
    have e1:=HBP.out.cell 1
    have el:=HBP.out.lt
    simp only [lqt,lqz,lqs]at e0 e1
    have q:=ref_token xn w1 (by first |(unfold maxLen;omega) | omega)
    have qf:=ref_field xv w1 (by omega)
    cases hp:isTok xn
    ·rw [hp]at q HFF
     have HQ:=hId (HST.out 5 HFF.out)
     clear hp HFF qf
     go_wp2_with fail
     refine q.mono ?_
     clear q
     rintro e w' ⟨rfl,rfl⟩
     go_wp2_with fail
     go_ret
     exact⟨ret_int (HQ.out.trans rfl).symm,HMP.out⟩
    ·rw [hp]at q HFF
     clear hp
     cases hv:isFld xv
     ·rw [hv]at qf HFF
      have HQ:=hId (HST.out 3 HFF.out)
      clear hv HFF
      go_wp2_with fail
      refine q.mono ?_
      clear q
      rintro e w' ⟨rfl,rfl⟩
      go_wp2_with fail
      refine qf.mono ?_
      clear qf
      rintro e w2 ⟨rfl,m2⟩
      have HM2:=hId (HMP.out.trans m2)
      clear m2
      go_wp2_with fail
      go_ret
      exact⟨ret_int (HQ.out.trans rfl).symm,HM2.out⟩
     ·rw [hv]at qf HFF
      have HQ:=hId ((HST.out 0 HFF.out).trans (if_neg (by simp)))
      clear hv HFF
      go_wp2_with fail
      refine q.mono ?_
      clear q
      rintro e w' ⟨rfl,rfl⟩
      go_wp2_with fail
      refine qf.mono ?_
      clear qf
      rintro e w2 ⟨rfl,m2⟩
      have HM2:=hId (HMP.out.trans m2)
      clear m2
      go_wp2_with fail
      go_roundw
      case rel=>exact⟨k+1,by omega,by go_num,HQ,HM2⟩
      case measure=>simp [intOf];omega
   ·obtain rfl:k=n:=by omega
    have HQ:Hid (headsF ls=0):=hId (by have:=HL.out;rw [HR.out,←this];exact eachF_end _ _)
    go_wp2_with fail
    go_ret
    exact⟨ret_int HQ.out.symm,HM.out⟩
set_option maxHeartbeats 1000000 in
theorem msg_queryFault (s:ByteArray) (w:World) (hs:s.size≤900000):
  Calls Tryz.prog 202 #[.string s] w fun e w'=>e= .returned (.int .i64 (queryBad s.data.toList))∧New w w':=by
 have hr:=msg_isRange s 33 126 w (by unfold maxLen;omega)
 have hc:=Tryz.strings_Contains_one s 35 w
 have hlen:s.data.toList.length=s.size:=rfl
 have HP0:Hid (queryBad s.data.toList=if 1000<s.size then 3 else if inR 33 126 s.data.toList=false then 3 else if decide (0≤Lib.indexByte s.data.toList 35)=true then 3 else 0):=hId rfl
 clear hlen
 generalize queryBad s.data.toList=B at *
 generalize inR 33 126 s.data.toList=I at *
 generalize decide (0≤Lib.indexByte s.data.toList 35)=C at *
 by_cases h1:1000<s.size
 ·have HP:=hId (HP0.out.trans (if_pos h1))
  have h1':(1000:Int)<(s.size:Int):=by omega
  clear HP0
  go_enter Tryz.func202,Tryz.ntmps202
  go_wp2_with fail
  go_ret
  exact⟨ret_int HP.out.symm,Mod.refl _ _⟩
 have HP1:=hId (HP0.out.trans (if_neg h1))
 have h1':¬ (1000:Int)<(s.size:Int):=by omega
 clear h1 HP0
 cases I
 ·have HP:=hId (HP1.out.trans rfl)
  clear hc HP1
  go_enter Tryz.func202,Tryz.ntmps202
  go_wp2_with (first |(refine hr.mono ?_;clear hr;rintro e w' ⟨rfl,rfl⟩))
  go_ret
  exact⟨ret_int HP.out.symm,Mod.refl _ _⟩
 cases C
 ·have HP:=hId (HP1.out.trans rfl)
  clear HP1
  go_enter Tryz.func202,Tryz.ntmps202
  go_wp2_with (first |(refine hr.mono ?_;clear hr;rintro e w' ⟨rfl,rfl⟩) |(refine hc.mono ?_;clear hc;rintro e w' ⟨rfl,rfl⟩))
  go_ret
  exact⟨ret_int HP.out.symm,Mod.refl _ _⟩
 ·have HP:=hId (HP1.out.trans rfl)
  clear HP1
  go_enter Tryz.func202,Tryz.ntmps202
  go_wp2_with (first |(refine hr.mono ?_;clear hr;rintro e w' ⟨rfl,rfl⟩) |(refine hc.mono ?_;clear hc;rintro e w' ⟨rfl,rfl⟩))
  go_ret
  exact⟨ret_int HP.out.symm,Mod.refl _ _⟩
set_option maxHeartbeats 1000000 in
theorem ref_queryForm (s:ByteArray) (w:World) (hs:s.size≤900000):
  Calls Tryz.prog 108 #[.string s] w fun e w'=>e= .returned (.bool (decide (queryBad s.data.toList=0)))∧New w w':=by
 have hr:=ref_visible s 33 w (by unfold maxLen;omega)
 have hc:=Tryz.strings_Contains_one s 35 w
 have HP0:Hid (queryBad s.data.toList=if 1000<s.size then 3 else if inR 33 126 s.data.toList=false then 3 else if decide (0≤Lib.indexByte s.data.toList 35)=true then 3 else 0):=hId rfl
 generalize queryBad s.data.toList=B at *
 generalize inR 33 126 s.data.toList=I at *
 generalize decide (0≤Lib.indexByte s.data.toList 35)=C at *
 by_cases h1:1000<s.size
 ·have HP:Hid (decide (B=0)=false):=hId (by rw [HP0.out,if_pos h1];rfl)
  have h1':¬ (s.size:Int)≤(1000:Int):=by omega
  clear HP0
  go_enter Tryz.func108,Tryz.ntmps108
  go_wp2_with fail
  go_ret
  exact⟨ret_bool HP.out.symm,Mod.refl _ _⟩
 have HP1:=hId (HP0.out.trans (if_neg h1))
 have h1':(s.size:Int)≤(1000:Int):=by omega
 clear h1 HP0
 cases I
 ·have HP:Hid (decide (B=0)=false):=hId (by rw [HP1.out];rfl)
  clear hc HP1
  go_enter Tryz.func108,Tryz.ntmps108
  go_wp2_with (first |(refine hr.mono ?_;clear hr;rintro e w' ⟨rfl,rfl⟩))
  go_ret
  exact⟨ret_bool HP.out.symm,Mod.refl _ _⟩
 cases C
 ·have HP:Hid (decide (B=0)=true):=hId (by rw [HP1.out];rfl)
  clear HP1
  go_enter Tryz.func108,Tryz.ntmps108
  go_wp2_with (first |(refine hr.mono ?_;clear hr;rintro e w' ⟨rfl,rfl⟩) |(refine hc.mono ?_;clear hc;rintro e w' ⟨rfl,rfl⟩))
  go_ret
  exact⟨ret_bool HP.out.symm,Mod.refl _ _⟩
 ·have HP:Hid (decide (B=0)=false):=hId (by rw [HP1.out];rfl)
  clear HP1
  go_enter Tryz.func108,Tryz.ntmps108
  go_wp2_with (first |(refine hr.mono ?_;clear hr;rintro e w' ⟨rfl,rfl⟩) |(refine hc.mono ?_;clear hc;rintro e w' ⟨rfl,rfl⟩))
  go_ret
  exact⟨ret_bool HP.out.symm,Mod.refl _ _⟩
theorem cut_at (t:ByteArray) (c:UInt8) (w:World) (hs:t.size≤1000000) (hx:MaxLn w):
  Calls Tryz.prog 95 #[.string t,.string ⟨#[c]⟩] w fun e w'=>e= .returned (.tuple #[.string ⟨(cutL c t.data.toList).1.toArray⟩,.string ⟨(cutL c t.data.toList).2.1.toArray⟩,.bool (cutL c t.data.toList).2.2])∧New w w':=by
 obtain⟨m,hm⟩:=hx
 have hc:=Tryz.strings_Cut t ⟨#[c]⟩ m w (by omega) hm
 have e:Lib.cut t.data.toList (⟨#[c]⟩:ByteArray).data.toList=cutL c t.data.toList:=cut_eq c _
 rw [e]at hc
 refine hc.mono ?_
 rintro e w' ⟨rfl,n,rfl⟩
 exact⟨rfl,(Mod.refl _ _).drewN n⟩
theorem outside_h (n a b:Int) (w:World):
  Calls Tryz.prog 245 #[.int .i64 n,.int .i64 a,.int .i64 b] w fun e w'=>e= .returned (.bool (!(decide (a≤n)&&decide (n≤b))))∧w=w':=by
 by_cases h:n<a
 ·go_enter Tryz.func245,Tryz.ntmps245
  go_wp2
  go_ret
  refine⟨?_,rfl⟩
  have:¬ a≤n:=by omega
  simp [this]
 ·have h':decide (n<a)=false:=by simpa using h
  have h2:decide (a≤n)=true:=by simp;omega
  go_enter Tryz.func245,Tryz.ntmps245
  go_wp2
  go_ret
  refine⟨?_,rfl⟩
  refine ret_bool ?_
  rw [Bool.eq_iff_iff]
  simp
set_option maxHeartbeats 1000000 in
theorem kit_small (s:ByteArray) (w:World) (hs:s.size≤1000000):Calls Tryz.prog 244 #[.string s] w (RNum 9 s w):=by
 have q:=kit_number 9 (by omega) s w hs
 go_enter Tryz.func244,Tryz.ntmps244
 go_wp2_with fail
 refine q.mono ?_
 clear q
 rintro e w' ⟨v,rfl,h1,h2⟩
 go_wp2_with fail
 go_ret2
 exact⟨v,rfl,h1,h2⟩
theorem cutL_le (c:UInt8) (l:List UInt8):(cutL c l).1.length≤l.length∧(cutL c l).2.1.length≤l.length:=by
 have h:=congrArg List.length (cutL_join c l)
 rw [List.length_append]at h
 refine⟨by omega,?_⟩
 unfold cutL
 simp only [List.length_drop]
 have:=(List.dropWhile_sublist (· != c) (l:=l)).length_le
 omega
set_option maxRecDepth 100000 in
set_option maxHeartbeats 1000000 in
theorem msg_isHost (s:ByteArray) (w:World) (hs:s.size≤900000) (hx:MaxLn w):
  Calls Tryz.prog 201 #[.string s] w fun e w'=>e= .returned (.bool (hostForm s))∧New w w':=by
 have hcut:=cut_at s 58 w (by omega) hx
 have hle:=cutL_le 58 s.data.toList
 have hls:s.data.toList.length=s.size:=rfl
 have HF:Hid (hostForm s=((pieces ⟨(cutL 58 s.data.toList).1.toArray⟩ dotB).all (fun x=>labOk x.data.toList)&&decide (s.size≤255)&&(!(cutL 58 s.data.toList).2.2||portOk ⟨(cutL 58 s.data.toList).2.1.toArray⟩))):=hId rfl
 generalize cutL 58 s.data.toList=C at *
 obtain⟨c1,c2,has⟩:=C
 simp only at hcut hle HF
 have z1:(⟨c1.toArray⟩:ByteArray).size≤900000:=by show c1.toArray.size≤_;simp;omega
 have z2:(⟨c2.toArray⟩:ByteArray).size≤900000:=by show c2.toArray.size≤_;simp;omega
 generalize (⟨c1.toArray⟩:ByteArray)=names at *
 generalize (⟨c2.toArray⟩:ByteArray)=port at *
 clear hle hls c1 c2
 have HX:=hId hx
 clear hx
 go_enter Tryz.func201,Tryz.ntmps201
 go_wp2_with fail
 refine hcut.mono ?_
 clear hcut
 rintro e w1 ⟨rfl,m1⟩
 have HM1:=hId m1
 have hsp:=split_any names 46 w1 (by omega) (HX.out.new m1)
 have hpl:∀ x∈pieces names dotB,x.size≤900000:=fun x hx=>Nat.le_trans (pieces_le hx) z1
 have hcnt:(pieces names dotB).length≤1000001:=by
  rw [pieces_length (show 1≤(dotB:ByteArray).size from Nat.le_refl _)]
  have:=Lib.countB_le dotB (Nat.le_refl _) names.size names (Nat.le_refl _)
  omega
 clear m1
 generalize pieces names dotB=P at *
 have HP:=hId hpl
 clear hpl
 go_wp2_with fail
 refine hsp.mono ?_
 clear hsp
 rintro e w2 ⟨rfl,rfl⟩
 have bP:=hId (Blk.new w1 9 (strCs P))
 have HM2:=hId (HM1.out.alloc (.cells (strCs P) 9))
 generalize w1.alloc (.cells (strCs P) 9)=w2 at *
 generalize w1.heap.size=g at *
 go_wp2_with fail
 have hbl:=bP.out.lt
 go_loop [19] (fun i=>∃ k:Nat,k≤P.length∧i= .int .i64 k∧Hid ((P.take k).all (fun x=>labOk x.data.toList)=true)) (fun i=>P.length -(intOf i).toNat)
 case atStart=>exact⟨0,Nat.zero_le _,rfl,hId rfl⟩
 case round=>
  obtain⟨k,hk,rfl,HR⟩:=hrel
  by_cases hlt:k<P.length
  ·have hcell:=strs_at bP.out k hlt
   rw [show P.getD k ByteArray.empty=P[k]by rw [List.getD_eq_getElem?_getD,List.getElem?_eq_getElem hlt];rfl]at hcell
   have HT:Hid ((P.take (k+1)).all (fun x=>labOk x.data.toList)=labOk P[k].data.toList):=hId (by rw [List.take_succ_eq_append_getElem hlt,List.all_append,HR.out];simp)
   have HN:Hid (labOk P[k].data.toList=false→P.all (fun x=>labOk x.data.toList)=false):=hId (fun h=>by
    rw [List.all_eq_false]
    exact⟨P[k],List.getElem_mem hlt,by rw [h];simp⟩)
   have q:=msg_isLabel P[k] w2 (by have:=HP.out _ (List.getElem_mem hlt);unfold maxLen;omega)
   have hb2:(0:Int)≤k:=by omega
   have hb3:(k:Int)<P.length:=by omega
   generalize P[k]=x at *
   cases hb:labOk x.data.toList
   ·rw [hb]at q
    have HB:=hId hb
    clear hb
    go_wp2_with fail
    refine q.mono ?_
    clear q
    rintro e w' ⟨rfl,rfl⟩
    go_wp2_with fail
    go_ret
    exact⟨ret_bool (by rw [HF.out,HN.out HB.out];rfl),HM2.out⟩
   ·rw [hb]at q
    have HB:=hId hb
    clear hb
    go_wp2_with fail
    refine q.mono ?_
    clear q
    rintro e w' ⟨rfl,rfl⟩
    go_wp2_with fail
    exact⟨⟨k+1,by omega,by go_num,hId (HT.out.trans HB.out)⟩,by simp [intOf];omega⟩
  ·obtain rfl:k=P.length:=by omega
   have hfull:P.take P.length=P:=List.take_length
   rw [hfull]at HR
   rw [HR.out,Bool.true_and]at HF
   clear hfull HR HP
   have q:=kit_small port w2 (by omega)
   go_wp2_with fail
   refine q.mono ?_
   clear q
   rintro e w3 ⟨v,rfl,hv,m3⟩
   have HM3:=hId (HM2.out.trans m3)
   have HPO:Hid (portOk port=(numOk 9 port&&(decide (1≤v)&&decide (v≤65535)))):=hId (by
    unfold portOk
    cases h:numOk 9 port
    ·rfl
    ·rw [hv h])
   clear hv m3
   generalize numOk 9 port=ok at *
   by_cases h1:s.size≤255
   ·have h2:(s.size:Int)≤255:=by omega
    rw [decide_eq_true h1,Bool.true_and]at HF
    cases has
    ·go_wp2_with fail
     go_ret
     exact⟨ret_bool (by rw [HF.out];rfl),HM3.out⟩
    ·cases ok
     ·go_wp2_with fail
      go_ret
      exact⟨ret_bool (by rw [HF.out,HPO.out];rfl),HM3.out⟩
     ·have q:=outside_h v 1 65535 w3
      go_wp2_with fail
      refine q.mono ?_
      clear q
      rintro e w4 ⟨rfl,rfl⟩
      go_wp2_with fail
      go_ret
      exact⟨ret_bool (by rw [HF.out,HPO.out];simp),HM3.out⟩
   ·have h2:¬ (s.size:Int)≤255:=by omega
    rw [decide_eq_false h1,Bool.false_and]at HF
    go_wp2_with fail
    go_ret
    exact⟨ret_bool (by rw [HF.out]),HM3.out⟩
/-- a host written in its normal form, or nothing -/
def RHost (s:ByteArray) (w:World) (e:Ending) (w':World):Prop:=e= .returned (.tuple #[.string (if hostForm s=true then⟨(hostN s.data.toList).toArray⟩ else⟨#[]⟩),.int .i64 (if hostForm s=true then 0 else 3)])∧New w w'
theorem splitB_mem (c:UInt8):∀(k:Nat) (s:ByteArray) (b:UInt8),b∈s.data.toList→b=c∨∃ x∈Lib.splitB ⟨#[c]⟩ 0 k s,b∈x.data.toList
 | 0,s,b,h=>.inr ⟨s,by simp [Lib.splitB],h⟩
 | k+1,s,b,h=>by
  rcases Lib.indexB_cases s ⟨#[c]⟩with hm |⟨i,hm,hi⟩
  ·rw [Lib.splitB_miss _ 0 _ s hm]
   exact .inr ⟨s,by simp,h⟩
  ·rw [Lib.splitB_hit _ 0 k s i hm]
   obtain⟨j,hj,rfl⟩:=List.getElem_of_mem h
   have hx:Lib.indexByte s.data.toList c=i:=by rw [← Lib.index_one];exact hm
   obtain⟨h1,-⟩:=Lib.indexByte_some hx
   have hsz:j<s.size:=hj
   have e1:(s.extract 0 i).data.toList=s.data.toList.take i:=by rw [← ByteArray.toList_eq,Lib.extract_toList];simp
   have e2:(s.extract (i+1) s.size).data.toList=s.data.toList.drop (i+1):=by
    rw [← ByteArray.toList_eq,Lib.extract_toList]
    exact List.take_of_length_le (by rw [List.length_drop];show s.size -(i+1)≤_;omega)
   by_cases hji:j<i
   ·refine .inr ⟨s.extract 0 i,List.mem_cons_self,?_⟩
    rw [e1]
    exact List.mem_take_iff_getElem.2 ⟨j,by simp only [Nat.lt_min];exact⟨hji,hj⟩,rfl⟩
   ·by_cases hje:j=i
    ·subst hje
     rw [List.getElem?_eq_getElem hj]at h1
     injection h1 with h1
     exact .inl h1
    ·have hd:s.data.toList[j]∈(s.extract (i+1) s.size).data.toList:=by
      rw [e2]
      exact List.mem_drop_iff_getElem.2 ⟨j -(i+1),by omega,by congr 1;omega⟩
     rcases splitB_mem c k _ _ hd with h2 |⟨x,h2,h3⟩
     ·exact .inl h2
     ·exact .inr ⟨x,List.mem_cons_of_mem _ h2,h3⟩
theorem host_ascii {s:ByteArray} (h:hostForm s=true):∀(j:Nat) (b:UInt8),s.data.toList[j]? =some b→b.toNat<128:=by
 intro j b hb
 have hm:=List.mem_of_getElem? hb
 unfold hostForm at h
 simp only [Bool.and_eq_true,List.all_eq_true]at h
 obtain⟨⟨h1,-⟩,h3⟩:=h
 rw [cutL_join 58 s.data.toList]at hm
 rcases List.mem_append.1 hm with hm | hm
 ·rcases splitB_mem 46 (Lib.countB ⟨(cutL 58 s.data.toList).1.toArray⟩ dotB) ⟨(cutL 58 s.data.toList).1.toArray⟩ b (by simpa using hm)with e |⟨x,hx,hbx⟩
  ·subst e;decide
  ·have hl:=h1 x hx
   unfold labOk at hl
   simp only [Bool.and_eq_true,List.all_eq_true]at hl
   exact lab_ascii (hl.1.1.1.1 b hbx)
 ·split at hm
  ·rename_i hh
   rw [hh]at h3
   simp only [Bool.not_true,Bool.false_or]at h3
   rcases List.mem_cons.1 hm with rfl | hm
   ·decide
   ·have hd:=List.all_eq_true.1 (port_digs h3).2 b hm
    unfold isDig at hd
    simp only [Bool.and_eq_true,decide_eq_true_eq]at hd
    omega
  ·cases hm
set_option maxHeartbeats 1000000 in
theorem msg_normalHost (s:ByteArray) (w:World) (hs:s.size≤900000) (hx:MaxLn w):Calls Tryz.prog 145 #[.string s] w (RHost s w):=by
 have q:=msg_isHost s w hs hx
 have HX:=hId (fun W (h:New w W)=>hx.new h)
 clear hx
 cases hf:hostForm s
 ·have HR:Hid (∀ w',New w w'→RHost s w (.returned (.tuple #[.string ⟨#[]⟩,.int .i64 3])) w'):=hId (fun w' hm=>⟨by rw [hf];rfl,hm⟩)
  rw [hf]at q
  clear hf
  go_enter Tryz.func145,Tryz.ntmps145
  go_wp2_with fail
  refine q.mono ?_
  clear q
  rintro e w1 ⟨rfl,m1⟩
  go_wp2_with fail
  go_ret2
  exact HR.out _ m1
 ·have HR:Hid (∀ w' (z:ByteArray),z=⟨(hostN s.data.toList).toArray⟩→New w w'→RHost s w (.returned (.tuple #[.string z,.int .i64 0])) w'):=hId (fun w' z hz hm=>⟨by rw [hf,hz];rfl,hm⟩)
  have hp:(!(cutL 58 s.data.toList).2.2||portOk ⟨(cutL 58 s.data.toList).2.1.toArray⟩)=true:=by
   have h:=hf
   unfold hostForm at h
   simp only [Bool.and_eq_true]at h
   exact h.2
  have HP:=hId (hostN_prog hp)
  have hlow:=fun W=>Tryz.strings_ToLower_ascii s W (by omega) (host_ascii hf)
  rw [hf]at q
  have HLOW:=hId hlow
  clear hf hp hlow
  go_enter Tryz.func145,Tryz.ntmps145
  go_wp2_with fail
  refine q.mono ?_
  clear q
  rintro e w1 ⟨rfl,m1⟩
  have hlow:=HLOW.out w1
  have HM1:=hId m1
  clear m1
  go_wp2_with fail
  refine hlow.mono ?_
  clear hlow
  rintro e w2 ⟨rfl,hm2⟩
  have HM2:=hId (HM1.out.trans (Mod.of_below hm2))
  have hll:(Lib.toLowerA s.data.toList).length=s.size:=lower_len _
  generalize Lib.toLowerA s.data.toList=L at *
  have hcut:=cut_at ⟨L.toArray⟩ 58 w2 (by show L.toArray.size≤_;simp;omega) (HX.out _ HM2.out)
  have hcl:=cutL_le 58 L
  simp only [List.toList_toArray]at hcut
  generalize cutL 58 L=C at *
  obtain⟨c1,c2,has⟩:=C
  simp only at hcut hcl HP
  have z1:(⟨c1.toArray⟩:ByteArray).size≤900000:=by show c1.toArray.size≤_;simp;omega
  have z2:(⟨c2.toArray⟩:ByteArray).size≤900000:=by show c2.toArray.size≤_;simp;omega
  have hb0:((⟨c2.toArray⟩:ByteArray).toList == [])=decide (c2= []):=by rw [ByteArray.toList_eq,Bool.eq_iff_iff];simp
  have hb1:((⟨c2.toArray⟩:ByteArray).toList == [56,48])=decide (c2= [56,48]):=by rw [ByteArray.toList_eq,Bool.eq_iff_iff];simp
  have hb2:((⟨c2.toArray⟩:ByteArray).toList == [52,52,51])=decide (c2= [52,52,51]):=by rw [ByteArray.toList_eq,Bool.eq_iff_iff];simp
  have HJ:Hid ((⟨c1.toArray⟩:ByteArray)++⟨#[58]⟩++⟨c2.toArray⟩=⟨(c1++58::c2).toArray⟩):=hId (by
   apply ByteArray.ext
   simp [ByteArray.data_append])
  go_wp2_with fail
  refine hcut.mono ?_
  clear hcut
  rintro e w3 ⟨rfl,m3⟩
  have HM3:=hId (HM2.out.trans m3)
  clear m3
  obtain⟨N1,hN1⟩:∃ z:ByteArray,⟨c1.toArray⟩=z:=⟨_,rfl⟩
  obtain⟨P1,hP1⟩:∃ z:ByteArray,⟨c2.toArray⟩=z:=⟨_,rfl⟩
  rw [hN1]at z1 HJ
  rw [hP1]at z2 hb0 hb1 hb2 HJ
  have HN1:=hId hN1
  simp only [hN1,hP1]
  clear hN1 hP1 hcl hll HLOW HX
  have HPP:Hid ((c2= []∨c2= [56,48]∨c2= [52,52,51]→hostN s.data.toList=c1)∧(¬ (c2= []∨c2= [56,48]∨c2= [52,52,51])→hostN s.data.toList=c1++58::c2)):=hId (by
   have h:=HP.out
   unfold plainP at h
   simp only [Bool.or_eq_true,decide_eq_true_eq]at h
   exact⟨fun e=>by rw [if_pos e]at h;exact h.symm,fun e=>by rw [if_neg e]at h;exact h.symm⟩)
  clear HP
  by_cases k0:c2= []
  ·rw [decide_eq_true k0]at hb0
   have HE:=hId (HPP.out.1 (.inl k0))
   clear k0 HPP
   go_wp2_with fail
   go_ret2
   exact HR.out _ N1 (by rw [HE.out,←HN1.out]) HM3.out
  ·rw [decide_eq_false k0]at hb0
   by_cases k1:c2= [56,48]
   ·rw [decide_eq_true k1]at hb1
    have HE:=hId (HPP.out.1 (.inr (.inl k1)))
    clear k0 k1 HPP
    go_wp2_with fail
    go_ret2
    exact HR.out _ N1 (by rw [HE.out,←HN1.out]) HM3.out
   ·rw [decide_eq_false k1]at hb1
    by_cases k2:c2= [52,52,51]
    ·rw [decide_eq_true k2]at hb2
     have HE:=hId (HPP.out.1 (.inr (.inr k2)))
     clear k0 k1 k2 HPP
     go_wp2_with fail
     go_ret2
     exact HR.out _ N1 (by rw [HE.out,←HN1.out]) HM3.out
    ·rw [decide_eq_false k2]at hb2
     have HE:=hId (HPP.out.2 (by rintro(h | h | h) <;> contradiction))
     clear k0 k1 k2 HPP
     have ha1:¬ (9223372036854775807<N1.size+(⟨#[58]⟩:ByteArray).size):=by show ¬ _<N1.size+1;omega
     have ha2:¬ (9223372036854775807<(N1++⟨#[58]⟩).size+P1.size):=by rw [ByteArray.size_append];show ¬ _<N1.size+1+P1.size;omega
     go_wp2_with fail
     go_ret2
     exact HR.out _ _ (by rw [HE.out,←HJ.out]) HM3.out
set_option maxRecDepth 100000 in
set_option maxHeartbeats 1000000 in
theorem ref_hostOf (s:ByteArray) (w:World) (hs:s.size≤900000) (hx:MaxLn w) (hT:Pow10 w):Calls Tryz.prog 35 #[.string s] w (RHost s w):=by
 have hcut:=cut_at s 58 w (by omega) hx
 have hle:=cutL_le 58 s.data.toList
 have hls:s.data.toList.length=s.size:=rfl
 have HF:Hid (hostForm s=((pieces ⟨(cutL 58 s.data.toList).1.toArray⟩ dotB).all (fun x=>labOk x.data.toList)&&decide (s.size≤255)&&(!(cutL 58 s.data.toList).2.2||portOk ⟨(cutL 58 s.data.toList).2.1.toArray⟩))):=hId rfl
 have HNR:=hId (fun (h:(!(cutL 58 s.data.toList).2.2||portOk ⟨(cutL 58 s.data.toList).2.1.toArray⟩)=true)=>hostN_ref h)
 have HBAD:Hid (hostForm s=false→∀ w',New w w'→RHost s w (.returned (.tuple #[.string ⟨#[]⟩,.int .i64 3])) w'):=hId (fun hf w' hm=>⟨by rw [hf];rfl,hm⟩)
 have HGOOD:Hid (hostForm s=true→∀ w' (z:ByteArray),z=⟨(hostN s.data.toList).toArray⟩→New w w'→RHost s w (.returned (.tuple #[.string z,.int .i64 0])) w'):=hId (fun hf w' z hz hm=>⟨by rw [hf,hz];rfl,hm⟩)
 generalize hostN s.data.toList=HNL at *
 generalize hostForm s=HFV at *
 generalize cutL 58 s.data.toList=C at *
 obtain⟨c1,c2,has⟩:=C
 simp only at hcut hle HF HNR
 have z1:(⟨c1.toArray⟩:ByteArray).size≤900000:=by show c1.toArray.size≤_;simp;omega
 have z2:(⟨c2.toArray⟩:ByteArray).size≤900000:=by show c2.toArray.size≤_;simp;omega
 obtain⟨names,hnm⟩:∃ z:ByteArray,⟨c1.toArray⟩=z:=⟨_,rfl⟩
 obtain⟨port,hpt⟩:∃ z:ByteArray,⟨c2.toArray⟩=z:=⟨_,rfl⟩
 rw [hnm]at z1 hcut HF
 rw [hpt]at z2 hcut HF HNR
 have HNM:=hId hnm
 have HPT:=hId hpt
 clear hle hls hnm hpt
 have HX:=hId hx
 have HTT:=hId hT
 clear hx hT
 go_enter Tryz.func35,Tryz.ntmps35
 go_wp2_with fail
 refine hcut.mono ?_
 clear hcut
 rintro e w1 ⟨rfl,m1⟩
 have HM1:=hId m1
 have hnum:=ref_number 5 (by omega) port w1 (by omega) (HTT.out.new m1)
 clear m1
 go_wp2_with fail
 refine hnum.mono ?_
 clear hnum
 rintro e w2 ⟨v,rfl,hv,m2⟩
 have HM2:=hId (HM1.out.trans m2)
 have HV:=hId hv
 clear hv m2 HM1
 obtain⟨ok,hok⟩:∃ o,numOk 5 port=o:=⟨_,rfl⟩
 rw [hok]at HV
 simp only [hok]
 have HPO:Hid (portOk port=(ok&&(decide (1≤numV port)&&decide (numV port≤65535)))):=hId (by rw [portOk_five,hok])
 clear hok
 go_upto_region 3 with(fail)
 obtain⟨fm,hfm⟩:∃ b,(decide (s.size≤255)&&(!has||portOk port))=b:=⟨_,rfl⟩
 have HFM:=hId hfm
 clear hfm
 go_cut [37] (fun s37 wx=>s37= .bool (!fm)∧wx=w2)
 case first=>
  by_cases h1:s.size≤255
  ·have h2:¬ (255:Int)<s.size:=by omega
   have H3:Hid (decide (s.size≤255)=true):=hId (by simpa using h1)
   clear h1
   cases has
   ·go_wp2_with fail
    go_meet
    case rel=>exact⟨by rw [← HFM.out,H3.out];rfl,rfl⟩
   ·cases ok
    ·have H4:Hid (portOk port=false):=hId (by rw [HPO.out];rfl)
     go_wp2_with fail
     go_meet
     case rel=>exact⟨by rw [← HFM.out,H3.out,H4.out];rfl,rfl⟩
    ·have H4:Hid (portOk port=(decide (1≤v)&&decide (v≤65535))):=hId (by rw [HPO.out,Bool.true_and,HV.out (by first | trivial | rfl)])
     have q:=ref2_in v 1 65535 w2
     generalize (decide (1≤v)&&decide (v≤65535))=t at *
     go_wp2_with fail
     refine q.mono ?_
     clear q
     rintro e w' ⟨rfl,rfl⟩
     go_wp2_with fail
     go_meet
     case rel=>exact⟨by rw [← HFM.out,H3.out,H4.out];cases t <;> rfl,rfl⟩
  ·have h2:(255:Int)<s.size:=by omega
   have H3:Hid (decide (s.size≤255)=false):=hId (by simpa using h1)
   clear h1
   go_wp2_with fail
   go_meet
   case rel=>exact⟨by rw [← HFM.out,H3.out];rfl,rfl⟩
 case rest=>
  rename World=>wx
  obtain⟨rfl,rfl⟩:=hcut
  have HVV:Hid (has=true→portOk port=true→v=numV port):=hId (fun _ h=>by
   rw [HPO.out]at h
   simp only [Bool.and_eq_true]at h
   exact HV.out h.1)
  have HQ:=hId (fun (h:portOk port=true)=>num_port h)
  obtain⟨pk,hpk⟩:∃ b,portOk port=b:=⟨_,rfl⟩
  rw [hpk]at HF HNR HVV HQ HFM
  clear hpk HPO HV
  have HF2:Hid (HFV=((pieces names dotB).all (fun x=>labOk x.data.toList)&&fm)):=hId (by rw [HF.out,Bool.and_assoc,HFM.out])
  clear HF
  cases fm
  ·go_wp2_with fail
   go_ret2
   exact HBAD.out (by rw [HF2.out,Bool.and_false]) _ HM2.out
  ·have HPK:Hid ((!has||pk)=true):=hId (by have:=HFM.out;simp only [Bool.and_eq_true]at this;exact this.2)
   have HNM2:=hId (HNR.out HPK.out)
   clear HNR HFM
   have hsp:=split_any names 46 wx (by omega) (HX.out.new HM2.out)
   have hpl:∀ x∈pieces names dotB,x.size≤900000:=fun x hx=>Nat.le_trans (pieces_le hx) z1
   have HLN:Hid ((∀ x∈pieces names dotB,labOk x.data.toList=true)→∀(j:Nat) (b:UInt8),names.data.toList[j]? =some b→b.toNat<128):=hId (fun h j b hb=>by
    rcases splitB_mem 46 (Lib.countB names dotB) names b (List.mem_of_getElem? hb)with e |⟨x,hx,hbx⟩
    ·subst e;decide
    ·have hl:=h x hx
     unfold labOk at hl
     simp only [Bool.and_eq_true,List.all_eq_true]at hl
     exact lab_ascii (hl.1.1.1.1 b hbx))
   have hcnt:(pieces names dotB).length≤1000001:=by
    rw [pieces_length (show 1≤(dotB:ByteArray).size from Nat.le_refl _)]
    have:=Lib.countB_le dotB (Nat.le_refl _) names.size names (Nat.le_refl _)
    omega
   generalize pieces names dotB=P at *
   have HP:=hId hpl
   clear hpl
   go_wp2_with fail
   refine hsp.mono ?_
   clear hsp
   rintro e w3 ⟨rfl,rfl⟩
   have bP:=hId (Blk.new wx 9 (strCs P))
   have HM3:=hId (HM2.out.alloc (.cells (strCs P) 9))
   generalize wx.alloc (.cells (strCs P) 9)=w3 at *
   generalize wx.heap.size=g at *
   go_wp2_with fail
   go_loopw [41] (fun i wr=>∃ k:Nat,k≤P.length∧i= .int .i64 k∧Hid ((P.take k).all (fun x=>labOk x.data.toList)=true)∧Hid (New w3 wr)) (fun i _=>P.length -(intOf i).toNat)
   case atStart=>exact⟨0,Nat.zero_le _,rfl,hId rfl,hId (Mod.refl _ _)⟩
   case round=>
    rename World=>wr
    obtain⟨k,hk,rfl,HR,HMR⟩:=hrel
    by_cases hlt:k<P.length
    ·have hbq:=bP.out.mod HMR.out (fun e=>e)
     have hbl:=hbq.lt
     have hcell:=strs_at hbq k hlt
     clear hbq
     rw [show P.getD k ByteArray.empty=P[k]by rw [List.getD_eq_getElem?_getD,List.getElem?_eq_getElem hlt];rfl]at hcell
     have HT:Hid ((P.take (k+1)).all (fun x=>labOk x.data.toList)=labOk P[k].data.toList):=hId (by rw [List.take_succ_eq_append_getElem hlt,List.all_append,HR.out];simp)
     have HN:Hid (labOk P[k].data.toList=false→P.all (fun x=>labOk x.data.toList)=false):=hId (fun h=>by
      rw [List.all_eq_false]
      exact⟨P[k],List.getElem_mem hlt,by rw [h];simp⟩)
     have hxs:=HP.out _ (List.getElem_mem hlt)
     have hb2:(0:Int)≤k:=by omega
     have hb3:(k:Int)<P.length:=by omega
     generalize P[k]=x at *
     have q1:=ref2_in (x.size:Int) 1 63 wr
     have q2:=ref_only x labB wr (by unfold maxLen;omega)
     rw [only_all lab_at]at q2
     have q3:=fun W=>Tryz.strings_Trim_set x ⟨#[45]⟩ W (by omega) (by decide) (asciiOne 45 (by decide))
     have htb:=trim_beq x [45]
     have HLA:Hid (labOk x.data.toList=((decide (1≤(x.size:Int))&&decide ((x.size:Int)≤63))&&x.data.toList.all labC&&decide (Lib.trimS x.data.toList [45]=x.data.toList))):=hId (by
      rw [labOk_ref]
      have hl:x.data.toList.length=x.size:=rfl
      rw [hl]
      congr 3
      ·rw [decide_eq_decide];omega
      ·rw [decide_eq_decide];omega)
     simp only [List.toList_toArray]at q3
     generalize (⟨(Lib.trimS x.data.toList [45]).toArray⟩:ByteArray)=T at *
     generalize decide (Lib.trimS x.data.toList [45]=x.data.toList)=t3 at *
     generalize x.data.toList.all labC=t2 at *
     generalize (decide (1≤(x.size:Int))&&decide ((x.size:Int)≤63))=t1 at *
     unfold labB at q2
     have Q2:=hId q2
     have Q3:=hId q3
     clear q2 q3 hxs
     cases t1
     ·go_wp2_with fail
      refine q1.mono ?_
      clear q1
      rintro e w' ⟨rfl,rfl⟩
      go_wp2_with fail
      go_ret2
      exact HBAD.out (by rw [HF2.out,HN.out (by rw [HLA.out];rfl)];rfl) _ (HM3.out.trans HMR.out)
     ·go_wp2_with fail
      refine q1.mono ?_
      clear q1
      rintro e w' ⟨rfl,rfl⟩
      have q2:=Q2.out
      cases t2
      ·go_wp2_with fail
       refine q2.mono ?_
       clear q2
       rintro e w' ⟨rfl,rfl⟩
       go_wp2_with fail
       go_ret2
       exact HBAD.out (by rw [HF2.out,HN.out (by rw [HLA.out];rfl)];rfl) _ (HM3.out.trans HMR.out)
      ·go_wp2_with fail
       refine q2.mono ?_
       clear q2
       rintro e w' ⟨rfl,rfl⟩
       have q3:=Q3.out wr
       go_wp2_with fail
       refine q3.mono ?_
       clear q3
       rintro e w5 ⟨rfl,m5⟩
       have HM5:=hId (HMR.out.trans (Mod.of_below m5))
       clear m5
       cases t3
       ·go_wp2_with fail
        go_ret2
        exact HBAD.out (by rw [HF2.out,HN.out (by rw [HLA.out];rfl)];rfl) _ (HM3.out.trans HM5.out)
       ·go_wp2_with fail
        exact⟨⟨k+1,by omega,by go_num,hId (HT.out.trans (by rw [HLA.out];rfl)),HM5⟩,by simp [intOf];omega⟩
    ·obtain rfl:k=P.length:=by omega
     have hfull:P.take P.length=P:=List.take_length
     rw [hfull]at HR
     have HG:Hid (HFV=true):=hId (by rw [HF2.out,HR.out];rfl)
     have hall:∀ x∈P,labOk x.data.toList=true:=List.all_eq_true.1 HR.out
     have hlow:=Tryz.strings_ToLower_ascii names wr (by omega) (HLN.out hall)
     have HMW:=hId (HM3.out.trans HMR.out)
     have hll:(Lib.toLowerA names.data.toList).length=names.size:=lower_len _
     have HNN:Hid (Lib.toLowerA c1=Lib.toLowerA names.data.toList):=hId (by rw [← HNM.out])
     obtain⟨LN,hLN⟩:∃ z:ByteArray,⟨(Lib.toLowerA names.data.toList).toArray⟩=z:=⟨_,rfl⟩
     have HLNE:=hId hLN
     have hlns:LN.size=names.size:=by rw [← hLN];show(Lib.toLowerA names.data.toList).toArray.size=_;simp;exact hll
     rw [hLN]at hlow
     clear hLN hll hfull hall HLN HP HR HMR HM3 HF2
     go_wp2_with fail
     refine hlow.mono ?_
     clear hlow
     rintro e w6 ⟨rfl,m6⟩
     have HM6:=hId (HMW.out.trans (Mod.of_below m6))
     clear m6 HMW
     have HC1:Hid (LN=⟨(Lib.toLowerA c1).toArray⟩):=hId (by rw [← HLNE.out,HNN.out])
     cases has
     ·have HE:Hid (HNL=Lib.toLowerA c1):=hId (by rw [← HNM2.out];simp)
      go_wp2_with fail
      go_ret2
      exact HGOOD.out HG.out _ LN (by rw [HC1.out,HE.out]) HM6.out
     ·have hpk:pk=true:=by have:=HPK.out;simpa using this
      subst hpk
      have hv:=HVV.out (by first | trivial | rfl) (by first | trivial | rfl)
      have hq:=HQ.out (by first | trivial | rfl)
      rw [← hv]at hq
      have HPP:Hid (port.data.toList=c2):=hId (by rw [← HPT.out])
      rw [HPP.out]at hq
      have HHQ:=hId hq
      have HH:=hId HNM2.out
      clear hv hq HNM2
      by_cases k0:v=80
      ·have HE:Hid (HNL=Lib.toLowerA c1):=hId (by
        have h:=HHQ.out
        rw [decide_eq_true k0,Bool.true_or]at h
        rw [← HH.out,←h]
        simp)
       have k1:(v != 80)=false:=by simpa using k0
       clear k0
       go_wp2_with fail
       go_ret2
       exact HGOOD.out HG.out _ LN (by rw [HC1.out,HE.out]) HM6.out
      ·have k1:(v != 80)=true:=by simpa using k0
       by_cases k2:v=443
       ·have HE:Hid (HNL=Lib.toLowerA c1):=hId (by
         have h:=HHQ.out
         rw [decide_eq_true k2,Bool.or_true]at h
         rw [← HH.out,←h]
         simp)
        have k3:(v != 443)=false:=by simpa using k2
        clear k0 k2
        go_wp2_with fail
        go_ret2
        exact HGOOD.out HG.out _ LN (by rw [HC1.out,HE.out]) HM6.out
       ·have HE:Hid (HNL=Lib.toLowerA c1++58::c2):=hId (by
         have h:=HHQ.out
         rw [decide_eq_false k0,decide_eq_false k2]at h
         rw [← HH.out,←h]
         simp)
        have k3:(v != 443)=true:=by simpa using k2
        clear k0 k2
        have ha1:¬ (9223372036854775807<(⟨#[58]⟩:ByteArray).size+port.size):=by show ¬ _<1+port.size;omega
        have ha2:¬ (9223372036854775807<LN.size+((⟨#[58]⟩:ByteArray)++port).size):=by rw [ByteArray.size_append];show ¬ _<LN.size+(1+port.size);omega
        go_wp2_with fail
        go_ret2
        exact HGOOD.out HG.out _ _ (by
         rw [HC1.out,HE.out,←HPT.out]
         apply ByteArray.ext
         simp [ByteArray.data_append]) HM6.out
end Go.Proofs.YtnlloaimplgjnaaGreatDoor
