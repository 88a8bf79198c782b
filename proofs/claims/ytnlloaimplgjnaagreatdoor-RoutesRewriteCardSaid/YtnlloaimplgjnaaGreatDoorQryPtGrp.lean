/- Several texts in one. (1) A word of a query as the reference writes it (gateref2.queryPart). Conditions: texts of modest size. (2) Pairs written as a query by the reference (gateref2.QueryFrom). Conditions: texts of modest size. (3) A query read by the reference (gateref2: QueryOf). Conditions: texts of modest size; the library's variables on searching and on errors. -/
import Derived.Test.YtnlloaimplgjnaaGreatDoorPathOf1Grp
import Derived.Test.YtnlloaimplgjnaaGreatDoorJoinPGrp
import Derived.Test.YtnlloaimplgjnaaGreatDoorQryTGrp
import Derived.Test.YtnlloaimplgjnaaGreatDoorQryPGrp
import Derived.Test.YtnlloaimplgjnaaGreatDoorDecPGrp
import Derived.Test.YtnlloaimplgjnaaGreatDoorBytesOfGrp
namespace Go.Proofs.YtnlloaimplgjnaaGreatDoor
open Go.RowKit
set_option linter.unusedVariables false
set_option linter.unusedSimpArgs false
set_option maxRecDepth 100000 in
set_option maxHeartbeats 2000000 in
theorem ref2_queryPart (s:ByteArray) (w:World) (hs:s.size≤300000):
  Calls Tryz.prog 183 #[.string s] w fun e w'=>e= .returned (.string ⟨(wordQ s).toArray⟩)∧New w w':=by
 obtain⟨BB,hBB⟩:∃ BB,BB=w.heap.size:=⟨_,rfl⟩
 have HBB:=hId hBB
 have HW1:Hid (New w w):=hId (Mod.refl _ _)
 have hB1:BB≤w.heap.size:=by omega
 clear hBB
 go_enter Tryz.func183,Tryz.ntmps183
 go_wp2_with fail
 go_loopw [3,7] (fun o i wr=>∃(k n:Nat) (A':Option Addr) (c':Nat),k≤s.size∧n≤3 * k∧i= .int .i64 k∧o= .slice A' n c'∧Hid (Own wr BB 5 1 bEnc A' n c' ((s.data.toList.take k).flatMap wordC))∧Hid (New w wr)∧BB≤wr.heap.size) (fun _ i _=>s.size -(intOf i).toNat)
 case atStart=>exact⟨0,0,none,0,Nat.zero_le _,Nat.zero_le _,rfl,rfl,hId (by rw [List.take_zero];exact Own.nil),HW1,hB1⟩
 case round=>
  clear HW1 hB1
  rename World=>wr
  obtain⟨k,n,A',c',hk,hn3,rfl,rfl,HO,HM,hBw⟩:=hrel
  by_cases hlt:k<s.size
  ·have hkl:k<s.data.toList.length:=hlt
   have HS1:Hid ((s.data.toList.take (k+1)).flatMap wordC=(s.data.toList.take k).flatMap wordC++wordC s[k]):=hId (by rw [wordL_take hkl];rfl)
   have hix:=Tryz.strings_IndexByte plainB2 (s[k].toNat:Int) wr
   rw [byteBack]at hix
   have hfr:=free_at s[k]
   have hcd:=ref2_coded s[k] wr
   have HOF:Hid (∀ g',blkOf A'=some g'→BB≤g'):=hId (fun g' e=>HO.out.farP g' e)
   generalize Lib.indexByte plainB2.data.toList s[k]=r at *
   by_cases h32:s[k]=32
   ·have c0:(s[k].toNat:Int)=32:=by rw [h32];rfl
    have c0b:((s[k].toNat:Int) == 32)=true:=by rw [h32];rfl
    have hq:wordC s[k]= [43]:=by unfold wordC;rw [if_pos h32]
    rw [hq]at HS1
    have HOA:=hId (HO.out.alloc (.cells #[.int .u8 43] 5))
    have HBN:=hId (Blk.new wr 5 #[.int .u8 43])
    have hBq:BB≤(wr.alloc (.cells #[.int .u8 43] 5)).heap.size:=by simp;omega
    clear hix hfr hcd h32 hq
    go_wp2_with (at_builtin;refine wpList_push rfl _ _ _ rfl 1 Tryz.underlying107 einfo_byte rfl HOA.out (43:UInt8) wr.heap.size rfl HBN.out (fun j hj=>bEnc_one _ j hj) (by omega) (by omega) hBq ?_;intro g8 c8 w8 own8 hm8 hat8 hlt8)
    have HO8:Hid (Own w8 BB 5 1 bEnc (some ⟨g8,0,none⟩) (n+1) c8 ((s.data.toList.take (k+1)).flatMap wordC)):=hId (by rw [HS1.out];exact own8)
    have HM8:Hid (New w w8):=hId ((HM.out.alloc (.cells #[.int .u8 43] 5)).step hm8 (fun i hi e=>by have:=HOF.out i e;have:=HBB.out;omega))
    have hB8:BB≤w8.heap.size:=by have:=hm8.size;omega
    clear own8 hm8
    go_roundw
    case rel=>exact⟨k+1,n+1,_,c8,by omega,by omega,by go_num,rfl,HO8,HM8,hB8⟩
    case measure=>simp [intOf];omega
   have c0:¬ (s[k].toNat:Int)=32:=fun h=>h32 (UInt8.toNat_inj.1 (by have:(32:UInt8).toNat=32:=rfl;omega))
   have c0b:((s[k].toNat:Int) == 32)=false:=beq_eq_false_iff_ne.2 c0
   cases h1:freeN s[k].toNat <;> rw [h1]at hfr
   ·have hq:wordC s[k]=(⟨#[37,upHex (s[k].toNat / 16),upHex (s[k].toNat % 16)]⟩:ByteArray).data.toList:=by unfold wordC pctC;rw [if_neg h32,h1];rfl
    rw [hq]at HS1
    have hr:¬ (0:Int)≤r:=by simpa using hfr
    have s3:(⟨#[37,upHex (s[k].toNat / 16),upHex (s[k].toNat % 16)]⟩:ByteArray).size=3:=rfl
    clear h1 h32 hq hfr
    generalize (⟨#[37,upHex (s[k].toNat / 16),upHex (s[k].toNat % 16)]⟩:ByteArray)=V at *
    go_wp2_with (first |(refine hix.mono ?_;clear hix;rintro e w' ⟨rfl,hw⟩;rw [hw];clear hw) |(refine hcd.mono ?_;clear hcd;rintro e w' ⟨rfl,hw⟩;rw [← hw];clear hw) |(at_builtin;refine wpList_pushStr rfl _ _ rfl rfl HO.out V rfl (by omega) hBw ?_;intro A8 c8 w8 own8 hm8))
    have HO8:Hid (Own w8 BB 5 1 bEnc A8 (n+3) c8 ((s.data.toList.take (k+1)).flatMap wordC)):=hId (by rw [HS1.out,←s3];exact own8)
    have HM8:Hid (New w w8):=hId ((HM.out).step hm8 (fun i hi e=>by have:=HOF.out i e;have:=HBB.out;omega))
    have hB8:BB≤w8.heap.size:=by have:=hm8.size;omega
    clear own8 hm8
    go_roundw
    case rel=>exact⟨k+1,n+3,_,c8,by omega,by omega,by go_num,rfl,HO8,HM8,hB8⟩
    case measure=>simp [intOf];omega
   ·have hq:wordC s[k]= [s[k]]:=by unfold wordC;rw [if_neg h32,h1];rfl
    rw [hq]at HS1
    have hr:(0:Int)≤r:=by simpa using hfr
    have HOA:=hId (HO.out.alloc (.cells #[.int .u8 (s[k].toNat:Int)] 5))
    have HBN:=hId (Blk.new wr 5 #[.int .u8 (s[k].toNat:Int)])
    have hBq:BB≤(wr.alloc (.cells #[.int .u8 (s[k].toNat:Int)] 5)).heap.size:=by simp;omega
    clear h1 h32 hq hfr hcd
    go_wp2_with (first |(refine hix.mono ?_;clear hix;rintro e w' ⟨rfl,hw⟩;rw [hw];clear hw) |(at_builtin;refine wpList_push rfl _ _ _ rfl 1 Tryz.underlying107 einfo_byte rfl HOA.out s[k] wr.heap.size rfl HBN.out (fun j hj=>bEnc_one _ j hj) (by omega) (by omega) hBq ?_;intro g8 c8 w8 own8 hm8 hat8 hlt8))
    have HO8:Hid (Own w8 BB 5 1 bEnc (some ⟨g8,0,none⟩) (n+1) c8 ((s.data.toList.take (k+1)).flatMap wordC)):=hId (by rw [HS1.out];exact own8)
    have HM8:Hid (New w w8):=hId ((HM.out.alloc (.cells #[.int .u8 (s[k].toNat:Int)] 5)).step hm8 (fun i hi e=>by have:=HOF.out i e;have:=HBB.out;omega))
    have hB8:BB≤w8.heap.size:=by have:=hm8.size;omega
    clear own8 hm8
    go_roundw
    case rel=>exact⟨k+1,n+1,_,c8,by omega,by omega,by go_num,rfl,HO8,HM8,hB8⟩
    case measure=>simp [intOf];omega
  ·obtain rfl:k=s.size:=by omega
   have ho:=HO.out
   rw [word_end]at ho
   have hcv:=own_string ho
   clear ho
   go_wp2_with fail
   go_ret
   exact⟨rfl,HM.out⟩
set_option maxRecDepth 100000 in
set_option maxHeartbeats 1500000 in
theorem ref2_queryFrom (A:Option Addr) (n c:Nat) (l:List PairD) (w:World) (h:QSl w A n l) (hn:n≤100000) (hz:∀ p∈l,p.1.size≤3000∧p.2.size≤3000):
  Calls Tryz.prog 116 #[.slice A n c] w (RTxt (queryT l) w):=by
 have hl:=h.1
 by_cases hb:100<n
 ·have hb':(100:Int)<n:=by omega
  have HR:Hid (queryT l=(2,[])):=hId (by unfold queryT;rw [if_pos (by omega)])
  go_enter Tryz.func116,Tryz.ntmps116
  go_wp2_with fail
  go_ret2
  exact RTxt.fault HR.out (Mod.refl _ _)
 have hb':¬ (100:Int)<n:=by omega
 have HR:Hid (queryT l=if l.any emptyP then(3,[]) else if 1000<(Lib.join (l.map pairT) [38]).length then(2,[]) else(0,Lib.join (l.map pairT) [38])):=hId (by unfold queryT;rw [if_neg (by omega)])
 have HS:=hId h
 have HZ:=hId hz
 have HL:=hId hl
 have hn2:n≤100:=by omega
 clear h hz hl hb hn
 obtain⟨BB,hBB⟩:∃ BB,BB=w.heap.size:=⟨_,rfl⟩
 have HBB:=hId hBB
 have HBW:BB≤w.heap.size:=by omega
 clear hBB
 go_enter Tryz.func116,Tryz.ntmps116
 go_wp2_with fail
 go_loopw [4,13] (fun o i wr=>∃(k c':Nat) (A':Option Addr),k≤n∧i= .int .i64 k∧o= .slice A' k c'∧Hid ((l.take k).any emptyP=false)∧Hid (Own wr BB 9 1 sEnc A' k c' ((l.take k).map pairTB))∧Hid (New w wr)) (fun _ i _=>n -(intOf i).toNat)
 case atStart=>exact⟨0,0,none,Nat.zero_le _,rfl,rfl,hId rfl,hId Own.nil,hId (Mod.refl _ _)⟩
 case round=>
  rename World=>wr
  obtain⟨k,c',A',hk,rfl,rfl,HE,HO,HM⟩:=hrel
  have HOF:Hid (∀ g',blkOf A'=some g'→BB≤g'):=hId (fun g' e=>HO.out.farS g' e)
  by_cases hlt:k<n
  ·have hkl:k<l.length:=by have:=HL.out;omega
   obtain⟨g,o,hA,htb,hc0⟩:=(HS.out.new HM.out).2 (by omega)
   have hsz:=HZ.out _ (List.getElem_mem hkl)
   subst hA
   have hgl:=htb.lt
   have a0:=hc0 k hkl 0 (by omega)
   have a1:=hc0 k hkl 1 (by omega)
   simp only [pairEnc,Nat.add_zero]at a0 a1
   have HEN:=hId (emptyP_any hkl HE.out)
   have HTN:=hId (mapTB_take hkl)
   have HEA:Hid (emptyP l[k]=true→l.any emptyP=true):=hId (fun e=>List.any_eq_true.2 ⟨_,List.getElem_mem hkl,e⟩)
   have htl:=pairT_length l[k]
   clear htb hc0
   generalize l[k]=x at *
   have heq:=pairTB_eq x
   obtain⟨xn,xv⟩:=x
   simp only at a0 a1 hsz heq htl
   have hb2:(0:Int)≤k:=by omega
   have hb3:(k:Int)<n:=by omega
   have bp:=Blk.new wr 52 #[.string xn,.string xv]
   have mp:New wr (wr.alloc (.cells #[.string xn,.string xv] 52)):=(Mod.refl _ _).alloc _
   go_upto_region 7 with(fail)
   have HMP:=hId (HM.out.trans mp)
   have HOP:=hId (HO.out.new mp)
   have HBP:=hId bp
   clear a0 a1 bp mp hgl HO HM
   generalize wr.alloc (.cells #[.string xn,.string xv] 52)=w1 at *
   generalize wr.heap.size=pb at *
   have e0:=HBP.out.cell 0
   have e1:=HBP.out.cell 1
   have el:=HBP.out.lt
   simp only [lqt,lqz,lqs]at e0 e1
   have k1:=str_nil xn
   have k2:=str_nil xv
   have HEP:Hid (emptyP (xn,xv)=(decide (xn=⟨#[]⟩)&&decide (xv=⟨#[]⟩))):=hId rfl
   generalize decide (xn=⟨#[]⟩)=D1 at *
   generalize decide (xv=⟨#[]⟩)=D2 at *
   cases hde:(D1&&D2)
   rotate_left
   ·have hd1:D1=true:=by cases D1 <;> simp_all
    have hd2:D2=true:=by cases D2 <;> simp_all
    subst hd1 hd2
    have HF:Hid (queryT l=(3,[])):=hId (by rw [HR.out,HEA.out (HEP.out.trans rfl),if_pos rfl])
    clear hde heq htl
    go_wp2_with fail
    go_ret2
    exact RTxt.fault HF.out HMP.out
   have HE1:Hid ((l.take (k+1)).any emptyP=false):=hId (by rw [HEN.out,HEP.out,hde])
   have HRG:Hid (∀ b:Bool,b=(D1&&D2)→b=false):=hId (fun b e=>by rw [e,hde])
   go_cut [24] (fun s19 wx=>s19= .bool false∧w1=wx)
   case first=>
    clear HRG HE1 HEN HEA HTN
    cases D1
    ·go_wp2_with fail
     go_meet
     case rel=>exact⟨rfl,rfl⟩
    ·cases D2
     ·go_wp2_with fail
      go_meet
      case rel=>exact⟨rfl,rfl⟩
     ·cases hde
   case rest=>
    obtain⟨rfl,rfl⟩:=hcut
    go_upto_region 9 with(fail)
    clear e0 e1 el HEP HEN HEA HRG
    have q1:=fun W=>ref2_queryPart xn W (by omega)
    have q2:=fun W=>ref2_queryPart xv W (by omega)
    have hw1:=wordQ_length xn
    have hw2:=wordQ_length xv
    have hs1:(⟨(wordQ xn).toArray⟩:ByteArray).size≤9000:=by show(List.toArray _).size≤_;rw [List.size_toArray];omega
    have hs2:(⟨(wordQ xv).toArray⟩:ByteArray).size≤9000:=by show(List.toArray _).size≤_;rw [List.size_toArray];omega
    generalize (⟨(wordQ xn).toArray⟩:ByteArray)=T1 at *
    generalize (⟨(wordQ xv).toArray⟩:ByteArray)=T2 at *
    have hy1:¬ 9223372036854775807<T1.size+(⟨#[61]⟩:ByteArray).size:=by have:(⟨#[61]⟩:ByteArray).size=1:=rfl;omega
    have hy1b:¬ 9223372036854775807<T1.size+1:=by omega
    have hy2:¬ 9223372036854775807<(T1++(⟨#[61]⟩:ByteArray)).size+T2.size:=by rw [ByteArray.size_append];have:(⟨#[61]⟩:ByteArray).size=1:=rfl;omega
    have hy2b:¬ 9223372036854775807<T1.size+1+T2.size:=by omega
    have hy2c:¬ 9223372036854775807<(T1++(⟨#[61]⟩:ByteArray)++T2).size:=by rw [ByteArray.size_append,ByteArray.size_append];have:(⟨#[61]⟩:ByteArray).size=1:=rfl;omega
    have HS1:Hid (∀ W,New w1 W→(W.cell? ⟨pb,0,none⟩=some (.string xn)∧W.cell? ⟨pb,1,none⟩=some (.string xv)∧pb<W.heap.size)):=hId (fun W hW=>by
     have h:=HBP.out.mod hW (fun e=>e)
     exact⟨(h.cell 0).trans rfl,(h.cell 1).trans rfl,h.lt⟩)
    have hn1:New w1 w1.drew:=(Mod.refl _ _).drew
    refine wp_region_held_ord (fun W=>W.cell? ⟨pb,0,none⟩=some (.string xn)∧W.cell? ⟨pb,1,none⟩=some (.string xv)∧pb<W.heap.size) [3,7,9] [0,1,2,5,6,3,4,7,8,9] (by kernel_rfl) (by kernel_rfl) (fun _ _ d _ _ h=>by cases d <;> exact h) ?_ (fun hHeld=>?_)
    ·exact HS1.out _ hn1
    simp only [List.length_cons,List.length_nil,List.drop_succ_cons,List.drop_zero]
    refine heldO_take ?_ (by rfl) (by rfl) (by rfl) (fun w hSw=>?_) ?_
    rotate_left
    ·(try dsimp only at hSw);go_simp;any_goals (with_reducible rfl)
    simp only [Act.put,lgt,lgz,lgs,lzt,lsz,lss]
    refine heldO_take ?_ (by rfl) (by rfl) (by rfl) (fun w hSw=>?_) ?_
    rotate_left
    ·(try dsimp only at hSw);go_simp;any_goals (with_reducible rfl)
    simp only [Act.put,lgt,lgz,lgs,lzt,lsz,lss]
    refine heldO_take ?_ (by rfl) (by rfl) (by rfl) (fun w hSw=>?_) ?_
    rotate_left
    ·(try dsimp only at hSw);go_simp;any_goals (with_reducible rfl)
    simp only [Act.put,lgt,lgz,lgs,lzt,lsz,lss]
    refine heldO_take ?_ (by rfl) (by rfl) (by rfl) (fun w hSw=>?_) ?_
    rotate_left
    ·(try dsimp only at hSw);go_simp;any_goals (with_reducible rfl)
    simp only [Act.put,lgt,lgz,lgs,lzt,lsz,lss]
    refine heldO_take ?_ (by rfl) (by rfl) (by rfl) (fun w hSw=>?_) ?_
    rotate_left
    ·(try dsimp only at hSw);go_simp;any_goals (with_reducible rfl)
    simp only [Act.put,lgt,lgz,lgs,lzt,lsz,lss]
    refine heldO_step (by rfl) (by rfl) (by rfl) (fun K hK=>?_)
    go_simp
    refine(q1 _).mono ?_
    clear q1
    rintro e w5 ⟨rfl,m5⟩
    have m15:=hn1.trans m5
    go_wp2_with fail
    refine hK.out _ _ (HS1.out _ m15) (fun hHeld=>?_)
    clear hK K m5
    try simp only [Act.put,lzt,lsz,lss]
    refine heldO_take ?_ (by rfl) (by rfl) (by rfl) (fun w hSw=>?_) ?_
    rotate_left
    ·(try dsimp only at hSw);go_simp;any_goals (with_reducible rfl)
    simp only [Act.put,lgt,lgz,lgs,lzt,lsz,lss]
    refine heldO_step (by rfl) (by rfl) (by rfl) (fun K hK=>?_)
    go_simp
    refine(q2 _).mono ?_
    clear q2
    rintro e w6 ⟨rfl,m6⟩
    have m16:=m15.trans m6
    go_wp2_with fail
    refine hK.out _ _ (HS1.out _ m16) (fun hHeld=>?_)
    clear hK K m6
    try simp only [Act.put,lzt,lsz,lss]
    refine heldO_take ?_ (by rfl) (by rfl) (by rfl) (fun w hSw=>?_) ?_
    rotate_left
    ·(try dsimp only at hSw);go_simp;any_goals (with_reducible rfl)
    simp only [Act.put,lgt,lgz,lgs,lzt,lsz,lss]
    try rw [heq]
    refine heldO_step (by rfl) (by rfl) (by rfl) (fun K hK=>?_)
    go_simp
    have m17:New w1 (w6.alloc (.cells #[.string (pairTB (xn,xv))] 9)):=m16.alloc _
    have hBn:=Blk.new w6 9 #[.string (pairTB (xn,xv))]
    refine hK.out _ _ (HS1.out _ m17) (fun hHeld=>?_)
    clear hK K
    try simp only [Act.put,lzt,lsz,lss]
    refine heldO_nil ?_
    have HO6:=hId (HOP.out.new m16)
    have HM6:=hId (HMP.out.trans m16)
    clear m17 m16 m15 hn1 HOP HMP
    have hW6:BB≤w6.heap.size:=by have:=HM6.out.size;omega
    have hBq:BB≤(w6.alloc (.cells #[.string (pairTB (xn,xv))] 9)).heap.size:=by simp;omega
    have HOA:=HO6.out.alloc (.cells #[.string (pairTB (xn,xv))] 9)
    go_wp2_with (at_builtin;refine wpList_push rfl _ _ _ rfl 16 Tryz.underlying26 einfo_str rfl HOA (pairTB (xn,xv)) w6.heap.size rfl hBn (fun j hj=>sEnc_one _ j hj) (by omega) (by omega) hBq ?_;intro g8 cap8 w8 own8 hm8 hat8 hlt8)
    have HO8:Hid (Own w8 BB 9 1 sEnc (some ⟨g8,0,none⟩) (k+1) cap8 ((l.take (k+1)).map pairTB)):=hId (by rw [HTN.out];exact own8)
    have HM8:Hid (New w w8):=hId ((HM6.out.alloc (.cells #[.string (pairTB (xn,xv))] 9)).step hm8 (fun i hi e=>by have:=HOF.out i e;have:=HBB.out;omega))
    clear own8 hm8
    go_roundw
    case rel=>exact⟨k+1,cap8,some ⟨g8,0,none⟩,by omega,by go_num,rfl,HE1,HO8,HM8⟩
    case measure=>simp [intOf];omega
  ·obtain rfl:k=n:=by omega
   have htk:l.take k=l:=List.take_of_length_le (by have:=HL.out;omega)
   rw [htk]at HE HO
   have HR1:Hid (queryT l=if 1000<(Lib.join (l.map pairT) [38]).length then(2,[]) else(0,Lib.join (l.map pairT) [38])):=hId (by rw [HR.out,HE.out];rfl)
   have hj:=join_own (l.map pairTB) A' k c' BB 38 wr HO.out (fun y hy=>by
    obtain⟨p,hp,rfl⟩:=List.mem_map.1 hy
    have h1:=pairT_length p
    have h2:=HZ.out p hp
    show(List.toArray _).size≤_
    rw [List.size_toArray]
    omega) (by omega)
   rw [queryT_join]at hj
   have hJz:(⟨(Lib.join (l.map pairT) [38]).toArray⟩:ByteArray).size=(Lib.join (l.map pairT) [38]).length:=by show(List.toArray _).size=_;rw [List.size_toArray]
   clear HR htk
   generalize Lib.join (l.map pairT) [38]=J at *
   by_cases h1:1000<J.length
   ·have HF:=hId (HR1.out.trans (if_pos h1))
    have h1':(1000:Int)<((⟨J.toArray⟩:ByteArray).size:Int):=by omega
    clear HR1 hJz
    generalize (⟨J.toArray⟩:ByteArray)=JB at *
    go_wp2_with fail
    refine hj.mono ?_
    clear hj
    rintro e w3 ⟨rfl,m3⟩
    have HM3:=hId (HM.out.trans m3)
    clear m3
    go_wp2_with fail
    go_ret2
    exact RTxt.fault HF.out HM3.out
   ·have HF:=hId (HR1.out.trans (if_neg h1))
    have h1':¬ (1000:Int)<((⟨J.toArray⟩:ByteArray).size:Int):=by omega
    have HJB:Hid (queryT l=(0,(⟨J.toArray⟩:ByteArray).data.toList)):=hId HF.out
    clear HR1 hJz HF
    generalize (⟨J.toArray⟩:ByteArray)=JB at *
    go_wp2_with fail
    refine hj.mono ?_
    clear hj
    rintro e w3 ⟨rfl,m3⟩
    have HM3:=hId (HM.out.trans m3)
    clear m3
    go_wp2_with fail
    go_ret2
    exact⟨by rw [HJB.out];rfl,HM3.out⟩
theorem queryBad_three {l:List UInt8} (h:queryBad l≠0):queryBad l=3:=by
 unfold queryBad at *
 by_cases h1:1000<l.length
 ·rw [if_pos h1]
 ·rw [if_neg h1]at *
  by_cases h2:inR 33 126 l=false
  ·rw [if_pos h2]
  ·rw [if_neg h2]at *
   by_cases h3:decide (0≤Lib.indexByte l 35)=true
   ·rw [if_pos h3]
   ·rw [if_neg h3]at h;exact absurd rfl h
theorem QryTo.ok {segs:List ByteArray} {k:Nat} {qs:List PairD} (h:QryTo segs k qs) (hk:k<segs.length) (hs:(pairsQ segs).isSome=true) (e:segs[k]≠⟨#[]⟩):∃ p,pairQ segs[k]=some p:=by
 cases hp:pairQ segs[k]with
 | some p=>exact⟨p,rfl⟩
 | none=>rw [h.bad hk e hp]at hs;cases hs
theorem replaceAll_plus (x:ByteArray) (w:World) (hs:x.size≤100000) (hx:MaxLn w):
  Calls Tryz.prog 180 #[.string x,.string ⟨#[43]⟩,.string ⟨#[37,50,48]⟩] w fun e w'=>e= .returned (.string ⟨(repL x.data.toList).toArray⟩)∧New w w':=by
 obtain⟨m,hm⟩:=hx
 have hc:=Lib.countB_le ⟨#[43]⟩ (by decide) x.size x (Nat.le_refl _)
 have h3:(⟨#[37,50,48]⟩:ByteArray).size=3:=rfl
 refine(Tryz.strings_ReplaceAll x ⟨#[43]⟩ ⟨#[37,50,48]⟩ m w (by omega) hm (by decide) (by rw [h3];omega)).mono ?_
 rintro e w' ⟨rfl,hb⟩
 refine⟨?_,Mod.of_below hb⟩
 rw [show (⟨#[43]⟩:ByteArray).data.toList= [43] from rfl,show(⟨#[37,50,48]⟩:ByteArray).data.toList= [37,50,48] from rfl,replaceAll_rep]
set_option maxRecDepth 100000 in
set_option maxHeartbeats 1500000 in
theorem ref_queryOf (s:ByteArray) (w:World) (hs:s.size≤100000) (hx:MaxLn w) (he:ErrSyn w):
  Calls Tryz.prog 110 #[.string s] w (RQry (queryOf s) w):=by
 have hpf:=ref_queryForm s w (by omega)
 by_cases hp:queryBad s.data.toList≠0
 ·have HQ:Hid (queryOf s=(3,[])):=hId (by unfold queryOf;rw [if_pos hp,queryBad_three hp])
  rw [decide_eq_false hp]at hpf
  clear hp
  go_enter Tryz.func110,Tryz.ntmps110
  go_wp2_with fail
  refine hpf.mono ?_
  clear hpf
  rintro e w1 ⟨rfl,hm⟩
  have HM:=hId hm
  clear hm
  go_wp2_with fail
  go_ret2
  exact RQry.fault HQ.out HM.out
 have hp0:queryBad s.data.toList=0:=by simpa using hp
 have HQ:Hid (queryOf s=match pairsQ (pieces s ampB)with
   | none=>(9,[])
   | some l=>if 100<l.length then(2,[]) else(0,l)):=hId (by
  unfold queryOf
  rw [if_neg hp]
  cases pairsQ (pieces s ampB) <;> rfl)
 have hz:=queryBad_small hp0
 rw [decide_eq_true hp0]at hpf
 clear hp hp0
 have HU:=hId (fun W (h:New w W)=>ref2_units s W (by omega) (he.new h))
 have hps:=pairs_some _ s (Nat.le_refl _)
 rw [decL_units _ _ (Nat.le_refl _),Option.isSome_map]at hps
 cases hun:unitsL s.data.toList with
 | none=>
  rw [hun]at hps HU
  have HF:Hid (queryOf s=(9,[])):=hId (by
   rw [HQ.out]
   cases h:pairsQ (pieces s ampB)with
   | none=>rfl
   | some l=>rw [h]at hps;cases hps)
  clear hps hun HQ hx
  go_enter Tryz.func110,Tryz.ntmps110
  go_wp2_with fail
  refine hpf.mono ?_
  clear hpf
  rintro e w2 ⟨rfl,hm2⟩
  have hu:=HU.out w2 hm2
  unfold RUnits at hu
  have HM:=hId hm2
  clear HU hm2
  simp only [Option.isSome_none]at hu
  go_wp2_with fail
  refine hu.mono ?_
  clear hu
  rintro e w3 ⟨Au,nu,cu,rfl,-,hm3,-⟩
  have HM3:=hId (HM.out.trans hm3)
  clear hm3
  go_wp2_with fail
  go_ret2
  exact RQry.fault HF.out HM3.out
 | some us=>
  rw [hun]at hps HU
  have HPS:Hid ((pairsQ (pieces s ampB)).isSome=true):=hId hps
  clear hps hun
  have hpc:=amp_count hz
  have HPL:=hId (fun x (hx:x∈pieces s ampB)=>Nat.le_trans (pieces_le hx) hz)
  have HX:=hId hx
  have HE:=hId he
  have HSP:=hId (fun W (h:New w W)=>split_any s 38 W (by omega) (HX.out.new h))
  clear hx he
  go_enter Tryz.func110,Tryz.ntmps110
  go_wp2_with fail
  refine hpf.mono ?_
  clear hpf
  rintro e w1 ⟨rfl,hm1⟩
  have hu:=HU.out w1 hm1
  unfold RUnits at hu
  have HM1:=hId hm1
  clear HU hm1
  simp only [Option.isSome_some]at hu
  go_wp2_with fail
  refine hu.mono ?_
  clear hu
  rintro e w2 ⟨Au,nu,cu,rfl,-,hm3,-⟩
  have hm2:=HM1.out.trans hm3
  clear hm3 HM1
  have hsp:=HSP.out w2 hm2
  clear HSP
  go_wp2_with fail
  refine hsp.mono ?_
  clear hsp
  rintro e w3 ⟨rfl,rfl⟩
  have hmL:New w2 (w2.alloc (.cells (strCs (pieces s ampB)) 9)):=(Mod.refl _ _).alloc _
  have hL:=Blk.new w2 9 (strCs (pieces s ampB))
  have HLW:Hid (w.heap.size≤w2.heap.size):=hId hm2.size
  have HM:=hId (hm2.trans hmL)
  have HL:=hId hL
  clear hmL hL hm2
  generalize pieces s ampB=segs at *
  generalize w2.alloc (.cells (strCs segs) 9)=w4 at *
  generalize w2.heap.size=L at *
  go_wp2_with fail
  go_loopw [6,25] (fun o i wr=>∃(k n c:Nat) (A:Option Addr) (qs:List PairD),k≤segs.length∧i= .int .i64 k∧o= .slice A n c∧Hid (QryTo segs k qs)∧n≤k∧Hid (Own wr (L+1) 52 2 pairEnc A n c qs)∧Hid (Blk wr L 9 (strCs segs))∧Hid (New w wr)) (fun _ i _=>segs.length -(intOf i).toNat)
  case atStart=>exact⟨0,0,0,none,[],Nat.zero_le _,rfl,rfl,hId (QryTo.start _),Nat.le_refl _,hId Own.nil,HL,HM⟩
  case round=>
   clear HM HL
   rename World=>wr
   obtain⟨k,n,c,A,qs,hk,rfl,rfl,HD,hnk,HO,HL,HM⟩:=hrel
   have HOF:Hid (∀ g',blkOf A=some g'→L+1≤g'):=hId (fun g' e=>HO.out.farS g' e)
   have hLr:=HL.out.lt
   by_cases hlt:k<segs.length
   ·have hce:=strs_at HL.out k hlt
    rw [strCs_at hlt]at hce
    have hxz:=HPL.out _ (List.getElem_mem hlt)
    have HSK:=hId (fun e=>HD.out.skip hlt e)
    have HMO:=hId (fun p e h=>HD.out.more (p:=p) hlt e h)
    have HOK:=hId (fun e=>HD.out.ok hlt HPS.out e)
    have hb1:(0:Int)≤k:=by omega
    have hb2:(k:Int)<segs.length:=by omega
    generalize segs[k]=x at *
    have e1:=const_eq x []
    by_cases hx0:x=⟨#[]⟩
    ·have HD1:=hId (HSK.out hx0)
     rw [decide_eq_true hx0]at e1
     clear hx0 HSK HMO HOK
     go_wp2_with fail
     go_roundw
     case rel=>exact⟨k+1,n,c,A,qs,by omega,by go_num,rfl,HD1,by omega,HO,HL,HM⟩
     case measure=>simp [intOf];omega
    rw [decide_eq_false hx0]at e1
    obtain⟨p,hp⟩:=HOK.out hx0
    have HD1:=hId (HMO.out p hx0 hp)
    have hrp:=ref_pair hp
    clear HSK HMO HOK hx0 hp
    have hrl:=replaceAll_plus x wr (by omega) (HX.out.new HM.out)
    have hrz:=repL_length x.data.toList
    have hxl:x.data.toList.length=x.size:=rfl
    unfold refPair at hrp
    have e9:(⟨(repL x.data.toList).toArray⟩:ByteArray).data.toList=repL x.data.toList:=rfl
    rw [← e9]at hrp
    have hyz:(⟨(repL x.data.toList).toArray⟩:ByteArray).size≤3000:=by show(List.toArray _).size≤_;rw [List.size_toArray];omega
    generalize (⟨(repL x.data.toList).toArray⟩:ByteArray)=y at *
    have hcl:=cutL_le 61 y.data.toList
    have hyl:y.data.toList.length=y.size:=rfl
    have hcut:=fun W (h:New w W)=>cut_at y 61 W (by omega) (HX.out.new h)
    have hz1:(⟨(cutL 61 y.data.toList).1.toArray⟩:ByteArray).size≤3000:=by show(List.toArray _).size≤_;rw [List.size_toArray];omega
    have hz2:(⟨(cutL 61 y.data.toList).2.1.toArray⟩:ByteArray).size≤3000:=by show(List.toArray _).size≤_;rw [List.size_toArray];omega
    generalize (⟨(cutL 61 y.data.toList).1.toArray⟩:ByteArray)=c1 at *
    generalize (⟨(cutL 61 y.data.toList).2.1.toArray⟩:ByteArray)=c2 at *
    generalize (cutL 61 y.data.toList).2.2=c3 at *
    clear hcl hyl hxl hrz e9
    have HCT:=hId hcut
    have b1:=fun W (h:New w W)=>ref2_bytesOf c1 W (by omega) (HE.out.new h)
    have b2:=fun W (h:New w W)=>ref2_bytesOf c2 W (by omega) (HE.out.new h)
    have HB1:=hId b1
    have HB2:=hId b2
    clear b1 b2 hcut
    generalize decB c1=an at *
    generalize decB c2=av at *
    subst hrp
    go_wp2_with fail
    refine hrl.mono ?_
    clear hrl
    rintro e w5 ⟨rfl,m5⟩
    have HO5:=hId (HO.out.new m5)
    have HL5:=hId (HL.out.new2 m5)
    have HM5:=hId (HM.out.trans m5)
    clear HO HL HM m5 hce hLr
    have hq:=HCT.out _ HM5.out
    clear HCT
    go_wp2_with fail
    refine hq.mono ?_
    clear hq
    rintro e w6 ⟨rfl,m6⟩
    have HO6:=hId (HO5.out.new m6)
    have HL6:=hId (HL5.out.new2 m6)
    have HM6:=hId (HM5.out.trans m6)
    clear m6 HO5 HL5 HM5
    have hq:=HB1.out _ HM6.out
    clear HB1
    go_wp2_with fail
    refine hq.mono ?_
    clear hq
    rintro e w7 ⟨rfl,m7⟩
    have HO7:=hId (HO6.out.new m7)
    have HL7:=hId (HL6.out.new2 m7)
    have HM7:=hId (HM6.out.trans m7)
    clear m7 HO6 HL6 HM6
    have hq:=HB2.out _ HM7.out
    clear HB2
    go_wp2_with fail
    refine hq.mono ?_
    clear hq
    rintro e w8 ⟨rfl,m8⟩
    have HO8:=hId (HO7.out.new m8)
    have HL8:=hId (HL7.out.new2 m8)
    have HM8:=hId (HM7.out.trans m8)
    clear m8 HO7 HL7 HM7
    have hLr7:=HL8.out.lt
    have hBq:L+1≤(w8.alloc (.cells #[.string an,.string av] 52)).heap.size:=by simp;omega
    have HOA:=HO8.out.alloc (.cells #[.string an,.string av] 52)
    have hBn:=Blk.new w8 52 #[.string an,.string av]
    go_wp2_with (at_builtin;refine wpList_push rfl _ _ _ rfl 32 Tryz.underlying27 einfo_pair rfl HOA (an,av) w8.heap.size rfl hBn (fun j hj=>pairEnc_one _ j hj) (by omega) (by omega) hBq ?_;intro g8 cap8 w9 own8 hm8 hat8 hlt8)
    have HO9:=hId own8
    have HL9:=hId ((HL8.out.new2 ((Mod.refl _ _).alloc (.cells #[.string an,.string av] 52))).mod hm8 (fun e=>by have:=HOF.out L e;omega))
    have HM9:Hid (New w w9):=hId ((HM8.out.alloc (.cells #[.string an,.string av] 52)).step hm8 (fun i hi e=>by have:=HOF.out i e;have:=HLW.out;omega))
    clear own8 hm8
    go_roundw
    case rel=>exact⟨k+1,_,cap8,some ⟨g8,0,none⟩,_,by omega,by go_num,rfl,HD1,by omega,HO9,HL9,HM9⟩
    case measure=>simp [intOf];omega
   ·obtain rfl:k=segs.length:=by omega
    have hql:qs.length=n:=HO.out.1
    have HF:Hid (queryOf s=if 100<n then(2,[]) else(0,qs)):=hId (by rw [HQ.out,HD.out.done];show(if 100<qs.length then((2:Int),([]:List PairD)) else(0,qs))=_;rw [hql])
    clear hql
    by_cases h100:100<n
    ·have h100':(100:Int)<(n:Int):=by omega
     have HF1:=hId (HF.out.trans (if_pos h100))
     clear HF h100
     go_wp2_with fail
     go_ret2
     exact RQry.fault HF1.out HM.out
    ·have h100':¬ (100:Int)<(n:Int):=by omega
     have HF1:=hId (HF.out.trans (if_neg h100))
     clear HF h100
     go_wp2_with fail
     go_ret2
     exact⟨_,_,_,by rw [HF1.out];rfl,by rw [HF1.out];exact HO.out.less (by have:=HLW.out;omega),HM.out⟩
end Go.Proofs.YtnlloaimplgjnaaGreatDoor
