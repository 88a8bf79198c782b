/- Several texts in one. (1) The path that has some segments (package message: JoinPath). Conditions: texts of modest size. (2) The reference's path that has some segments (gateref2.PathFrom). Conditions: texts of modest size. -/
import Derived.Test.YtnlloaimplgjnaaGreatDoorBytesOfGrp
import Derived.Test.YtnlloaimplgjnaaGreatDoorRdyFGrp
namespace Go.Proofs.YtnlloaimplgjnaaGreatDoor
open Go.RowKit
set_option linter.unusedVariables false
set_option linter.unusedSimpArgs false
theorem anyD_take {p:ByteArray→Bool} {l:List ByteArray} {k:Nat} (h:k<l.length) (h0:(l.take k).any p=false):(l.take (k+1)).any p=p l[k]:=by
 rw [List.take_succ_eq_append_getElem h,List.any_append,h0];simp
theorem anyD_hit {p:ByteArray→Bool} {l:List ByteArray} {k:Nat} (h:k<l.length) (h1:p l[k]=true):l.any p=true:=List.any_eq_true.2 ⟨_,List.getElem_mem h,h1⟩
set_option maxRecDepth 100000 in
set_option maxHeartbeats 1500000 in
theorem msg_joinPath (A:Option Addr) (n c:Nat) (l:List ByteArray) (w:World) (hs:SSl w A n l) (hf:PFit l):
  Calls Tryz.prog 84 #[.slice A n c] w (RTxt (joinP l) w):=by
 have HL:=hId hs.1
 have hn:n≤300000:=by have h1:=pathT_ge l;have h2:=hf.t;have h3:=hs.1;omega
 by_cases h1:100<n
 ·have h1':(100:Int)<(n:Int):=by omega
  have HQ:Hid (joinP l=(2,[])):=hId (by unfold joinP;rw [if_pos (by have:=HL.out;omega)])
  clear hs hf
  go_enter Tryz.func84,Tryz.ntmps84
  go_wp2_with fail
  go_ret2
  exact RTxt.fault HQ.out (Mod.refl _ _)
 have h1':¬ (100:Int)<(n:Int):=by omega
 by_cases h2:n=0
 ·have HQ:Hid (joinP l=(3,[])):=hId (by unfold joinP;rw [if_neg (by have:=HL.out;omega),if_pos (by have:=HL.out;omega)])
  subst h2
  clear hs hf HL
  go_enter Tryz.func84,Tryz.ntmps84
  go_wp2_with fail
  go_ret2
  exact RTxt.fault HQ.out (Mod.refl _ _)
 have h2':((n:Int) == 0)=false:=by simp;omega
 have HQ:Hid (joinP l=if l.any isDotB then(5,[]) else if 1000<(pathT l).length then(2,[]) else(0,pathT l)):=hId (by unfold joinP;rw [if_neg (by have:=HL.out;omega),if_neg (by have:=HL.out;omega)])
 have hb0:=Blk.new w 109 #[.pointer none,.slice none 0 0]
 have hm0:New w (w.alloc (.cells #[.pointer none,.slice none 0 0] 109)):=(Mod.refl _ _).alloc _
 have HS:=hId hs
 have HF:=hId hf
 clear hs hf h1 h2
 go_enter Tryz.func84,Tryz.ntmps84
 go_upto_region 6 with(fail)
 generalize w.alloc (.cells #[.pointer none,.slice none 0 0] 109)=w1 at *
 generalize hbe:w.heap.size=B at *
 have HB:=hId (Bw.fresh hb0 (Nat.le_refl _))
 have HM:=hId hm0
 have HBE:=hId hbe
 clear hb0 hm0 hbe
 go_wp2_with fail
 go_loopw [15] (fun i wr=>∃ k:Nat,k≤n∧i= .int .i64 k∧Hid ((l.take k).any isDotB=false)∧Hid (Bw 109 B B (pathT (l.take k)) wr)∧Hid (New w wr)) (fun i _=>n -(intOf i).toNat)
 case atStart=>exact⟨0,Nat.zero_le _,rfl,hId rfl,HB,HM⟩
 case round=>
  clear HB HM
  rename World=>wr
  obtain⟨k,hk,rfl,HD,HB,HM⟩:=hrel
  by_cases hlt:k<n
  ·have hdt:=anyD_take (p:=isDotB) (l:=l) (k:=k) (by have:=HL.out;omega) HD.out
   have hdh:=anyD_hit (p:=isDotB) (l:=l) (k:=k) (by have:=HL.out;omega)
   have hkl:k<l.length:=by have:=HL.out;omega
   obtain⟨g,o,hA,ht,hc⟩:=(HS.out.new HM.out).2 (by omega)
   subst hA
   have a0:=hc k hkl 0 (by omega)
   have hst:=pathT_take hkl
   have hle:=pathT_le l (k+1)
   rw [hst]at hle
   have hft:=HF.out.t
   have hxz:=HF.out.x _ (List.getElem_mem hkl)
   have hgl:=ht.lt
   have hb1:(0:Int)≤k:=by omega
   have hb2:(k:Int)<n:=by omega
   simp only [sEnc,Nat.mul_one,Nat.add_zero]at a0
   clear hc ht
   generalize l[k]=x at *
   have hsl:=segL_length x.data.toList
   have hxl:x.data.toList.length=x.size:=rfl
   have hHT:Hid ((⟨(segL x.data.toList).toArray⟩:ByteArray).data.toList=segL x.data.toList):=hId rfl
   have hTs:(⟨(segL x.data.toList).toArray⟩:ByteArray).size=(segL x.data.toList).length:=by show(List.toArray _).size=_;simp
   rw [List.length_append,List.length_cons]at hle
   have k1:=const_eq x [46]
   have k2:=const_eq x [46,46]
   have hdd:isDotB x=(decide (x=dot1)||decide (x=dot2)):=rfl
   have HDT:=hId hdt
   have HDH:=hId hdh
   have HTS:=hId hTs
   have HST:=hId hst
   have HLE:=hId hle
   have hTs':(⟨(segL x.data.toList).toArray⟩:ByteArray).size≤300000:=by omega
   clear hdt hdh hTs hst hle
   by_cases hx:x=dot1∨x=dot2
   ·have HE:Hid (joinP l=(5,[])):=hId (by rw [HQ.out,HDH.out (by rw [hdd];rcases hx with h | h <;> simp [h]),if_pos rfl])
    clear hdd hsl hxl hft hTs'
    rcases hx with hx | hx
    ·rw [decide_eq_true hx]at k1
     clear hx k2
     go_wp2_with fail
     go_ret2
     exact RTxt.fault HE.out HM.out
    ·have hx1:¬ x=dot1:=by rw [hx];decide
     rw [decide_eq_false hx1]at k1
     rw [decide_eq_true hx]at k2
     clear hx hx1
     go_wp2_with fail
     go_ret2
     exact RTxt.fault HE.out HM.out
   ·have hx1:¬ x=dot1:=fun h=>hx (.inl h)
    have hx2:¬ x=dot2:=fun h=>hx (.inr h)
    rw [decide_eq_false hx1]at k1
    rw [decide_eq_false hx2]at k2
    have HD1:Hid ((l.take (k+1)).any isDotB=false):=hId (by rw [HDT.out,hdd,decide_eq_false hx1,decide_eq_false hx2];rfl)
    have hsg:=msg_segment x wr (by omega)
    clear hx hx1 hx2 hdd HD hsl hxl hft
    generalize (⟨(segL x.data.toList).toArray⟩:ByteArray)=T at *
    have e1:(⟨#[47]⟩:ByteArray).size=1:=rfl
    have hadd:¬ 9223372036854775807<(⟨#[47]⟩:ByteArray).size+T.size:=by omega
    go_upto_region 11 with fail
    go_wp2_with fail
    refine hsg.mono ?_
    clear hsg
    rintro e w4 ⟨rfl,hm4⟩
    have HM4:Hid (New w w4):=hId (HM.out.trans hm4)
    have HB4:=hId (HB.out.new hm4)
    clear hm4 HM HB
    have HM:=HM4
    have HB:=HB4
    clear HM4 HB4
    go_wp2_with fail
    have hTs:=HTS.out
    have hst:=HST.out
    have hle:=HLE.out
    have hft:=HF.out.t
    obtain⟨U,hU⟩:∃ U:ByteArray,U=(⟨#[47]⟩:ByteArray)++T:=⟨_,rfl⟩
    have HUL:Hid (U.data.toList=47::segL x.data.toList):=hId (by rw [hU,cat_list,hHT.out];rfl)
    rw [← hU]
    have hUz:U.size=(segL x.data.toList).length+1:=by rw [hU,ByteArray.size_append];show 1+T.size=_;omega
    have hwr:=bw_string buT_self B B (pathT (l.take k)) U _ HB.out (by omega)
    clear hU hUz
    refine hwr.mono ?_
    clear hwr
    rintro e w5 ⟨rfl,hb5,hm5,-⟩
    have HM5:=hId (HM.out.from hm5 (Nat.le_of_eq HBE.out))
    have HB5:Hid (Bw 109 B B (pathT (l.take (k+1))) w5):=hId (by rw [hst,←HUL.out];exact hb5)
    clear hb5 hm5 HB HM hst hle hTs
    go_wp2_with fail
    go_roundw
    case rel=>exact⟨k+1,by omega,by go_num,HD1,HB5,HM5⟩
    case measure=>simp [intOf];omega
  ·obtain rfl:k=n:=by omega
   have hT:l.take k=l:=List.take_of_length_le (by have:=HL.out;omega)
   rw [hT]at HD HB
   have HQ1:Hid (joinP l=if 1000<(pathT l).length then(2,[]) else(0,pathT l)):=hId (by rw [HQ.out,HD.out];rfl)
   have hln:=bw_len B B _ wr HB.out
   clear hT HQ
   by_cases hbig:1000<(pathT l).length
   ·have hbig':(1000:Int)<((pathT l).length:Int):=by omega
    have HE2:Hid (joinP l=(2,[])):=hId (by rw [HQ1.out,if_pos hbig])
    go_wp2_with (first |(refine hln.mono ?_;clear hln;rintro e w4 ⟨rfl,hw4⟩;rw [hw4];clear hw4))
    go_ret2
    exact RTxt.fault HE2.out HM.out
   ·have hbig':¬ (1000:Int)<((pathT l).length:Int):=by omega
    have HE2:Hid (joinP l=(0,pathT l)):=hId (by rw [HQ1.out,if_neg hbig])
    have hst:=bw_any B B _ wr HB.out
    go_wp2_with (first |(refine hln.mono ?_;clear hln;rintro e w4 ⟨rfl,hw4⟩;rw [hw4];clear hw4) |(refine hst.mono ?_;clear hst;rintro e w5 ⟨rfl,hm5⟩;have HM5:=hId (HM.out.from hm5 (Nat.le_of_eq HBE.out));clear hm5))
    go_ret2
    exact⟨by rw [HE2.out];rfl,HM5.out⟩
abbrev openL2:List UInt8:=[97,98,99,100,101,102,103,104,105,106,107,108,109,110,111,112,113,114,115,116,117,118,119,120,121,122,65,66,67,68,69,70,71,72,73,74,75,76,77,78,79,80,81,82,83,84,85,86,87,88,89,90,48,49,50,51,52,53,54,55,56,57,45,46,95,126,33,36,38,39,40,41,42,43,44,59,61,58,64]
theorem open_at2 (c:UInt8):decide (0≤Lib.indexByte openL2 c)=openC c:=by
 revert c
 apply byteOf
 decide +kernel
theorem dot_any (l:List ByteArray):(Lib.containsS l dot1||Lib.containsS l dot2)=l.any isDotB:=by
 rw [Bool.eq_iff_iff,Bool.or_eq_true,Lib.containsS_iff,Lib.containsS_iff,List.any_eq_true]
 constructor
 ·rintro(h | h)
  ·exact⟨_,h,by simp [isDotB]⟩
  ·exact⟨_,h,by simp [isDotB]⟩
 ·rintro⟨x,hx,hd⟩
  simp only [isDotB,Bool.or_eq_true,decide_eq_true_eq]at hd
  rcases hd with rfl | rfl
  ·exact .inl hx
  ·exact .inr hx
theorem pathT_lt {l:List ByteArray} {k j:Nat} (h:k<l.length):(pathT (l.take k)++(47::segL (l[k].data.toList.take j))).length≤(pathT l).length+1+3 * l[k].size:=by
 have h1:=pathT_le l k
 have h2:=segL_length (l[k].data.toList.take j)
 have h3:(l[k].data.toList.take j).length≤l[k].size:=by rw [List.length_take];exact Nat.min_le_right _ _
 rw [List.length_append,List.length_cons]
 omega
set_option maxRecDepth 100000 in
set_option maxHeartbeats 1500000 in
theorem ref2_pathFrom (A:Option Addr) (n c:Nat) (l:List ByteArray) (w:World) (hs:SSl w A n l) (hf:PFit l):
  Calls Tryz.prog 121 #[.slice A n c] w (RTxt (joinP l) w):=by
 have HL:=hId hs.1
 have hn:n≤300000:=by have h1:=pathT_ge l;have h2:=hf.t;have h3:=hs.1;omega
 by_cases h1:100<n
 ·have h1':(100:Int)<(n:Int):=by omega
  have HQ:Hid (joinP l=(2,[])):=hId (by unfold joinP;rw [if_pos (by have:=HL.out;omega)])
  clear hs hf
  go_enter Tryz.func121,Tryz.ntmps121
  go_wp2_with fail
  go_ret2
  exact RTxt.fault HQ.out (Mod.refl _ _)
 have h1':¬ (100:Int)<(n:Int):=by omega
 by_cases h2:n=0
 ·have HQ:Hid (joinP l=(3,[])):=hId (by unfold joinP;rw [if_neg (by have:=HL.out;omega),if_pos (by have:=HL.out;omega)])
  subst h2
  clear hs hf HL
  go_enter Tryz.func121,Tryz.ntmps121
  go_wp2_with fail
  go_ret2
  exact RTxt.fault HQ.out (Mod.refl _ _)
 have h2':((n:Int) == 0)=false:=by simp;omega
 have HQ:Hid (joinP l=if l.any isDotB then(5,[]) else if 1000<(pathT l).length then(2,[]) else(0,pathT l)):=hId (by unfold joinP;rw [if_neg (by have:=HL.out;omega),if_neg (by have:=HL.out;omega)])
 obtain⟨g,o,rfl,htb,hcs⟩:=hs.2 (by omega)
 have hln:l.length=n:=hs.1
 have hct:∀ x W,W=w→Calls Tryz.prog 37 #[.slice (some ⟨g,o,none⟩) n c,.string x] W fun e w'=>e= .returned (.bool (Lib.containsS l x))∧w'=w:=by
  rintro x W rfl
  have:=Tryz.slices_Contains_string g o n c l x W (by omega) (by omega) (fun j hj=>by
   have:=hcs j (by omega) 0 (by omega)
   rw [Nat.mul_one,Nat.add_zero]at this
   rw [this,List.getD_eq_getElem?_getD,List.getElem?_eq_getElem hj]
   rfl)
  rw [← hln,List.take_length,hln]at this
  exact this
 have hc1:=hct ⟨#[46]⟩ w rfl
 have hc2:=hct ⟨#[46,46]⟩ w rfl
 have hda:=dot_any l
 rw [show dot1=(⟨#[46]⟩:ByteArray) from rfl,show dot2=(⟨#[46,46]⟩:ByteArray) from rfl]at hda
 have HS:=hId hs
 have HF:=hId hf
 have hgl:=htb.lt
 clear hct hs hf hcs htb hln h1 h2
 generalize Lib.containsS l ⟨#[46]⟩=b1 at *
 generalize Lib.containsS l ⟨#[46,46]⟩=b2 at *
 cases b1
 rotate_left
 ·have HE:Hid (joinP l=(5,[])):=hId (by rw [HQ.out,←hda];rfl)
  clear hda
  go_enter Tryz.func121,Tryz.ntmps121
  go_wp2_with (first |(refine hc1.mono ?_;clear hc1;rintro e w' ⟨rfl,hw⟩;rw [hw];clear hw) | fail)
  go_ret2
  exact RTxt.fault HE.out (Mod.refl _ _)
 cases b2
 rotate_left
 ·have HE:Hid (joinP l=(5,[])):=hId (by rw [HQ.out,←hda];rfl)
  clear hda
  go_enter Tryz.func121,Tryz.ntmps121
  go_wp2_with (first |(refine hc1.mono ?_;clear hc1;rintro e w' ⟨rfl,hw⟩;rw [hw];clear hw) |(refine hc2.mono ?_;clear hc2;rintro e w' ⟨rfl,hw⟩;rw [hw];clear hw))
  go_ret2
  exact RTxt.fault HE.out (Mod.refl _ _)
 have HQ1:Hid (joinP l=if 1000<(pathT l).length then(2,[]) else(0,pathT l)):=hId (by rw [HQ.out,←hda];rfl)
 have hB0:w.heap.size≤w.heap.size:=Nat.le_refl _
 have HM0:Hid (New w w):=hId (Mod.refl _ _)
 have HBE:Hid (∃ B,w.heap.size=B):=hId ⟨_,rfl⟩
 clear HQ hda
 go_enter Tryz.func121,Tryz.ntmps121
 go_wp2_with (first |(refine hc1.mono ?_;clear hc1;rintro e w' ⟨rfl,hw⟩;rw [hw];clear hw) |(refine hc2.mono ?_;clear hc2;rintro e w' ⟨rfl,hw⟩;rw [hw];clear hw))
 generalize hBe:w.heap.size=B at *
 go_loopw [4,25] (fun o' i wr=>∃(k n' c':Nat) (A':Option Addr),k≤n∧i= .int .i64 k∧o'= .slice A' n' c'∧Hid (Own wr B 5 1 bEnc A' n' c' (pathT (l.take k)))∧Hid (New w wr)∧B≤wr.heap.size) (fun _ i _=>n -(intOf i).toNat)
 case atStart=>exact⟨0,0,0,none,Nat.zero_le _,rfl,rfl,hId Own.nil,HM0,by omega⟩
 case round=>
  clear HM0
  rename World=>wr
  obtain⟨k,n',c',A',hk,rfl,rfl,HO,HM,hBw⟩:=hrel
  by_cases hlt:k<n
  ·have hkl:k<l.length:=by have:=HL.out;omega
   obtain⟨g2,o2,hA2,ht2,hcc⟩:=(HS.out.new HM.out).2 (by omega)
   injection hA2 with hA2
   injection hA2 with q1 q2
   subst q1 q2
   have a0:=hcc k hkl 0 (by omega)
   have hgl2:=ht2.lt
   have hxz:=HF.out.x _ (List.getElem_mem hkl)
   have hst:=pathT_take hkl
   have hlt2:=fun j=>pathT_lt (j:=j) hkl
   have hft:=HF.out.t
   have hb1:(0:Int)≤k:=by omega
   have hb2:(k:Int)<n:=by omega
   have hn':n'≤300000:=by
    have h1:=HO.out.1
    have h2:=pathT_le l k
    omega
   simp only [sEnc,Nat.mul_one,Nat.add_zero]at a0
   clear hcc ht2
   generalize l[k]=x at *
   have HST:=hId hst
   have HLT:=hId hlt2
   have HOA:=hId (HO.out.alloc (.cells #[.int .u8 47] 5))
   have HBN:=hId (Blk.new wr 5 #[.int .u8 47])
   have HOF:Hid (∀ g',blkOf A'=some g'→B≤g'):=hId (fun g' e=>HO.out.farP g' e)
   have hBq:B≤(wr.alloc (.cells #[.int .u8 47] 5)).heap.size:=by simp;omega
   have hBw0:w.heap.size≤B:=Nat.le_of_eq hBe
   have HB0:=hId hBw0
   clear hst hlt2 hBw0
   go_wp2_with (at_builtin;refine wpList_push rfl _ _ _ rfl 1 Tryz.underlying107 einfo_byte rfl HOA.out (47:UInt8) wr.heap.size rfl HBN.out (fun j hj=>bEnc_one _ j hj) (by omega) (by omega) hBq ?_;intro g8 cap8 w8 own8 hm8 hat8 hlt8)
   have HO8:Hid (Own w8 B 5 1 bEnc (some ⟨g8,0,none⟩) (n'+1) cap8 (pathT (l.take k)++(47::segL (x.data.toList.take 0)))):=hId own8
   have HM8:Hid (New w w8):=hId ((HM.out.alloc (.cells #[.int .u8 47] 5)).step hm8 (fun i hi e=>by have:=HOF.out i e;have:=HB0.out;omega))
   have hB8:B≤w8.heap.size:=by have:=hm8.size;omega
   clear own8 hm8 HO HM hBw HOA HBN HOF hBq a0
   go_loopw [4,34] (fun o' i wr=>∃(j n' c':Nat) (A':Option Addr),j≤x.size∧i= .int .i64 j∧o'= .slice A' n' c'∧Hid (Own wr B 5 1 bEnc A' n' c' (pathT (l.take k)++(47::segL (x.data.toList.take j))))∧Hid (New w wr)∧B≤wr.heap.size) (fun _ i _=>x.size -(intOf i).toNat)
   case atStart=>exact⟨0,_,cap8,_,Nat.zero_le _,rfl,rfl,HO8,HM8,hB8⟩
   case round=>
    clear HM8 HO8 hB8
    rename World=>wi
    obtain⟨j,n2,c2,A2,hj,rfl,rfl,HO,HM,hBi⟩:=hrel
    by_cases hjt:j<x.size
    ·have hjl:j<x.data.toList.length:=hjt
     have hse:=segL_take hjl
     have hn2:n2≤600001:=by
      have h1:=HO.out.1
      have h2:=HLT.out j
      omega
     have hj1:(0:Int)≤j:=by omega
     have hj2:(j:Int)<x.size:=by omega
     have hix:=Tryz.strings_IndexByte ⟨openL2.toArray⟩ (x[j].toNat:Int) wi
     rw [byteBack,show(⟨openL2.toArray⟩:ByteArray).data.toList=openL2 from rfl]at hix
     have hop:=open_at2 x[j]
     have hcd:=ref2_coded x[j] wi
     have HSE:Hid (segL (x.data.toList.take (j+1))=segL (x.data.toList.take j)++(if openC x[j] then [x[j]] else [37,upHex (x[j].toNat / 16),upHex (x[j].toNat % 16)])):=hId hse
     have HOF:Hid (∀ g',blkOf A2=some g'→B≤g'):=hId (fun g' e=>HO.out.farP g' e)
     clear hse
     generalize Lib.indexByte openL2 x[j]=r at *
     cases hox:openC x[j] <;> rw [hox]at hop
     ·have hr:¬ (0:Int)≤r:=by simpa using hop
      have HO1:Hid (pathT (l.take k)++(47::segL (x.data.toList.take (j+1)))=(pathT (l.take k)++(47::segL (x.data.toList.take j)))++(⟨#[37,upHex (x[j].toNat / 16),upHex (x[j].toNat % 16)]⟩:ByteArray).data.toList):=hId (by rw [HSE.out,hox];simp)
      have s3:(⟨#[37,upHex (x[j].toNat / 16),upHex (x[j].toNat % 16)]⟩:ByteArray).size=3:=rfl
      clear hop hox HSE
      generalize (⟨#[37,upHex (x[j].toNat / 16),upHex (x[j].toNat % 16)]⟩:ByteArray)=V at *
      go_wp2_with (first |(refine hix.mono ?_;clear hix;rintro e w' ⟨rfl,hw⟩;rw [hw];clear hw) |(refine hcd.mono ?_;clear hcd;rintro e w' ⟨rfl,hw⟩;rw [← hw];clear hw) |(at_builtin;refine wpList_pushStr rfl _ _ rfl rfl HO.out V rfl (by omega) hBi ?_;intro A8 c8 w8 own8 hm8))
      have HO8:Hid (Own w8 B 5 1 bEnc A8 (n2+3) c8 (pathT (l.take k)++(47::segL (x.data.toList.take (j+1))))):=hId (by rw [HO1.out,←s3];exact own8)
      have HM8:Hid (New w w8):=hId ((HM.out).step hm8 (fun i hi e=>by have:=HOF.out i e;have:=HB0.out;omega))
      have hB8:B≤w8.heap.size:=by have:=hm8.size;omega
      clear own8 hm8
      go_roundw
      case rel=>exact⟨j+1,_,c8,A8,by omega,by go_num,rfl,HO8,HM8,hB8⟩
      case measure=>simp [intOf];omega
     ·have hr:(0:Int)≤r:=by simpa using hop
      have HO1:Hid (pathT (l.take k)++(47::segL (x.data.toList.take (j+1)))=(pathT (l.take k)++(47::segL (x.data.toList.take j)))++ [x[j]]):=hId (by rw [HSE.out,hox];simp)
      have HOA:=hId (HO.out.alloc (.cells #[.int .u8 (x[j].toNat:Int)] 5))
      have HBN:=hId (Blk.new wi 5 #[.int .u8 (x[j].toNat:Int)])
      have hBq:B≤(wi.alloc (.cells #[.int .u8 (x[j].toNat:Int)] 5)).heap.size:=by simp;omega
      clear hop hox HSE hcd
      go_wp2_with (first |(refine hix.mono ?_;clear hix;rintro e w' ⟨rfl,hw⟩;rw [hw];clear hw) |(at_builtin;refine wpList_push rfl _ _ _ rfl 1 Tryz.underlying107 einfo_byte rfl HOA.out x[j] wi.heap.size rfl HBN.out (fun j hj=>bEnc_one _ j hj) (by omega) (by omega) hBq ?_;intro g8 c8 w8 own8 hm8 hat8 hlt8))
      have HO8:Hid (Own w8 B 5 1 bEnc (some ⟨g8,0,none⟩) (n2+1) c8 (pathT (l.take k)++(47::segL (x.data.toList.take (j+1))))):=hId (by rw [HO1.out];exact own8)
      have HM8:Hid (New w w8):=hId ((HM.out.alloc (.cells #[.int .u8 (x[j].toNat:Int)] 5)).step hm8 (fun i hi e=>by have:=HOF.out i e;have:=HB0.out;omega))
      have hB8:B≤w8.heap.size:=by have:=hm8.size;omega
      clear own8 hm8
      go_roundw
      case rel=>exact⟨j+1,_,c8,_,by omega,by go_num,rfl,HO8,HM8,hB8⟩
      case measure=>simp [intOf];omega
    ·obtain rfl:j=x.size:=by omega
     have hfull:x.data.toList.take x.size=x.data.toList:=List.take_of_length_le (Nat.le_refl _)
     have ho:=HO.out
     rw [hfull,←HST.out]at ho
     have HO2:=hId ho
     clear ho hfull HO
     go_wp2_with fail
     go_roundw
     case rel=>exact⟨k+1,n2,c2,A2,by omega,by go_num,rfl,HO2,HM,hBi⟩
     case measure=>simp [intOf];omega
  ·obtain rfl:k=n:=by omega
   have hfull:l.take k=l:=List.take_of_length_le (by have:=HL.out;omega)
   have ho:=HO.out
   rw [hfull]at ho
   have hnn:(pathT l).length=n':=ho.1
   have hft:=HF.out.t
   have hcv:=own_string ho
   clear ho hfull HO
   by_cases hbig:1000<n'
   ·have hbig':(1000:Int)<(n':Int):=by omega
    have HE:Hid (joinP l=(2,[])):=hId (by rw [HQ1.out,if_pos (by omega)])
    clear hcv hnn
    go_wp2_with fail
    go_ret2
    exact RTxt.fault HE.out HM.out
   ·have hbig':¬ (1000:Int)<(n':Int):=by omega
    have HE:Hid (joinP l=(0,pathT l)):=hId (by rw [HQ1.out,if_neg (by omega)])
    clear hnn
    go_wp2_with fail
    go_ret2
    exact⟨by rw [HE.out];rfl,HM.out⟩
end Go.Proofs.YtnlloaimplgjnaaGreatDoor
