/- Several texts in one. (1) Pairs written as a query: the program's and the reference's. Conditions: texts of modest size. (2) A request in its normal form: the program's (message.Normal). Conditions: a request of modest size; the library's variable on searching is an int. -/
import Derived.Test.YtnlloaimplgjnaaGreatDoorPathOf1Grp
import Derived.Test.YtnlloaimplgjnaaGreatDoorPairGrp
import Derived.Test.YtnlloaimplgjnaaGreatDoorRtNeedGrp
import Derived.Test.YtnlloaimplgjnaaGreatDoorNormGrp
import Derived.Test.YtnlloaimplgjnaaGreatDoorNrm0Grp
namespace Go.Proofs.YtnlloaimplgjnaaGreatDoor
open Go.RowKit
set_option linter.unusedVariables false
set_option linter.unusedSimpArgs false
/-- a pair's text -/
def pairTB (p:PairD):ByteArray:=⟨(pairT p).toArray⟩
theorem pairT_length (p:PairD):(pairT p).length≤3 * p.1.size+3 * p.2.size+1:=by
 unfold pairT
 rw [List.length_append,List.length_cons]
 have:=wordQ_length p.1
 have:=wordQ_length p.2
 omega
theorem pairTB_eq (p:PairD):((⟨(wordQ p.1).toArray⟩:ByteArray)++⟨#[61]⟩)++⟨(wordQ p.2).toArray⟩=pairTB p:=by
 apply ByteArray.ext
 apply Array.toList_inj.1
 unfold pairTB pairT
 rw [ByteArray.data_append,ByteArray.data_append]
 simp
theorem queryT_join (l:List PairD):(l.map pairTB).map (·.data.toList)=l.map pairT:=by
 rw [List.map_map]
 rfl
/-- Join of a row of one's own at one byte -/
theorem join_own (st:List ByteArray) (A:Option Addr) (n c B:Nat) (sep:UInt8) (w:World) (hO:Own w B 9 1 sEnc A n c st) (hz:∀ y∈st,y.size≤30000) (hn:n≤200):
  Calls Tryz.prog 67 #[.slice A n c,.string ⟨#[sep]⟩] w fun e w'=>e= .returned (.string ⟨(Lib.join (st.map (·.data.toList)) [sep]).toArray⟩)∧New w w':=by
 by_cases h0:n=0
 ·subst h0
  have hst0:st= []:=List.eq_nil_of_length_eq_zero hO.1
  subst hst0
  refine(Tryz.strings_Join_none A c ⟨#[sep]⟩ w).mono ?_
  rintro e w' ⟨rfl,rfl⟩
  exact⟨rfl,Mod.refl _ _⟩
 ·rcases hO.blk with⟨_,h1,_⟩ |⟨g',rfl,hB,htb⟩
  ·exact absurd h1 h0
  ·obtain⟨g2,o2,hA,htb2,hc⟩:=hO.sl.2 (by omega)
   injection hA with hA
   injection hA with q1 q2 q3
   subst q1 q2
   have hyl:=hO.1
   have hle:(Lib.join (st.map (·.data.toList)) [sep]).length≤n * 30001:=by
    have:=join_le [sep] 30000 (st.map (·.data.toList)) (fun x hx=>by
     obtain⟨y,hy,rfl⟩:=List.mem_map.1 hx
     exact hz y hy)
    rw [List.length_map,hyl]at this
    exact this
   have hmul:n * 30001≤200 * 30001:=Nat.mul_le_mul (by omega) (by omega)
   have hcap:n≤c:=by
    obtain⟨_,_,_,_,h5,_⟩:=hO.form (by omega)
    exact h5
   have hjn:=Tryz.strings_Join g' 0 c st ⟨#[sep]⟩ w (fun i x hx=>by
    have hi:i<st.length:=by
     rcases Nat.lt_or_ge i st.length with h | h
     ·exact h
     ·rw [List.getElem?_eq_none h]at hx;cases hx
    rw [List.getElem?_eq_getElem hi]at hx
    injection hx with hx
    subst hx
    have:=hc i hi 0 (by decide)
    rw [show 0+i * 1+0=0+i by omega]at this
    exact this) htb.lt (by omega) (by omega) (Nat.le_trans hle (by omega))
   rw [hyl,show(⟨#[sep]⟩:ByteArray).data.toList= [sep] from rfl]at hjn
   refine hjn.mono ?_
   rintro e w' ⟨rfl,hm⟩
   exact⟨rfl,Mod.of_below hm⟩
theorem emptyP_any {l:List PairD} {k:Nat} (h:k<l.length) (h0:(l.take k).any emptyP=false):(l.take (k+1)).any emptyP=emptyP l[k]:=by
 rw [List.take_succ_eq_append_getElem h,List.any_append,h0];simp
theorem mapTB_take {l:List PairD} {k:Nat} (h:k<l.length):(l.take (k+1)).map pairTB=(l.take k).map pairTB++ [pairTB l[k]]:=by
 rw [List.take_succ_eq_append_getElem h,List.map_append];rfl
set_option maxRecDepth 100000 in
set_option maxHeartbeats 1500000 in
theorem msg_queryText (A:Option Addr) (n c:Nat) (l:List PairD) (w:World) (h:QSl w A n l) (hn:n≤100000) (hz:∀ p∈l,p.1.size≤3000∧p.2.size≤3000):
  Calls Tryz.prog 150 #[.slice A n c] w (RTxt (queryT l) w):=by
 have hl:=h.1
 by_cases hb:100<n
 ·have hb':(100:Int)<n:=by omega
  have HR:Hid (queryT l=(2,[])):=hId (by unfold queryT;rw [if_pos (by omega)])
  go_enter Tryz.func150,Tryz.ntmps150
  go_wp2_with fail
  go_ret2
  exact RTxt.fault HR.out (Mod.refl _ _)
 have hb':¬ (100:Int)<n:=by omega
 have HR:Hid (queryT l=if l.any emptyP then(3,[]) else if 1000<(Lib.join (l.map pairT) [38]).length then(2,[]) else(0,Lib.join (l.map pairT) [38])):=hId (by unfold queryT;rw [if_neg (by omega)])
 have HS:=hId h
 have HZ:=hId hz
 have HL:=hId hl
 have hn2:n≤100:=by omega
 clear h hz hl hb hn
 obtain⟨BB,hBB⟩:∃ BB,BB=w.heap.size:=⟨_,rfl⟩
 have HBB:=hId hBB
 have HBW:BB≤w.heap.size:=by omega
 clear hBB
 go_enter Tryz.func150,Tryz.ntmps150
 go_wp2_with fail
 go_loopw [4,13] (fun o i wr=>∃(k c':Nat) (A':Option Addr),k≤n∧i= .int .i64 k∧o= .slice A' k c'∧Hid ((l.take k).any emptyP=false)∧Hid (Own wr BB 9 1 sEnc A' k c' ((l.take k).map pairTB))∧Hid (New w wr)) (fun _ i _=>n -(intOf i).toNat)
 case atStart=>exact⟨0,0,none,Nat.zero_le _,rfl,rfl,hId rfl,hId Own.nil,hId (Mod.refl _ _)⟩
 case round=>
  rename World=>wr
  obtain⟨k,c',A',hk,rfl,rfl,HE,HO,HM⟩:=hrel
  have HOF:Hid (∀ g',blkOf A'=some g'→BB≤g'):=hId (fun g' e=>HO.out.farS g' e)
  by_cases hlt:k<n
  ·have hkl:k<l.length:=by have:=HL.out;omega
   obtain⟨g,o,hA,htb,hc0⟩:=(HS.out.new HM.out).2 (by omega)
   have hsz:=HZ.out _ (List.getElem_mem hkl)
   subst hA
   have hgl:=htb.lt
   have a0:=hc0 k hkl 0 (by omega)
   have a1:=hc0 k hkl 1 (by omega)
   simp only [pairEnc,Nat.add_zero]at a0 a1
   have HEN:=hId (emptyP_any hkl HE.out)
   have HTN:=hId (mapTB_take hkl)
   have HEA:Hid (emptyP l[k]=true→l.any emptyP=true):=hId (fun e=>List.any_eq_true.2 ⟨_,List.getElem_mem hkl,e⟩)
   have htl:=pairT_length l[k]
   clear htb hc0
   generalize l[k]=x at *
   have heq:=pairTB_eq x
   obtain⟨xn,xv⟩:=x
   simp only at a0 a1 hsz heq htl
   have hb2:(0:Int)≤k:=by omega
   have hb3:(k:Int)<n:=by omega
   have bp:=Blk.new wr 52 #[.string xn,.string xv]
   have mp:New wr (wr.alloc (.cells #[.string xn,.string xv] 52)):=(Mod.refl _ _).alloc _
   go_upto_region 7 with(fail)
   have HMP:=hId (HM.out.trans mp)
   have HOP:=hId (HO.out.new mp)
   have HBP:=hId bp
   clear a0 a1 bp mp hgl HO HM
   generalize wr.alloc (.cells #[.string xn,.string xv] 52)=w1 at *
   generalize wr.heap.size=pb at *
   have e0:=HBP.out.cell 0
   have e1:=HBP.out.cell 1
   have el:=HBP.out.lt
   simp only [lqt,lqz,lqs]at e0 e1
   have k1:=str_nil xn
   have k2:=str_nil xv
   have HEP:Hid (emptyP (xn,xv)=(decide (xn=⟨#[]⟩)&&decide (xv=⟨#[]⟩))):=hId rfl
   generalize decide (xn=⟨#[]⟩)=D1 at *
   generalize decide (xv=⟨#[]⟩)=D2 at *
   cases hde:(D1&&D2)
   rotate_left
   ·have hd1:D1=true:=by cases D1 <;> simp_all
    have hd2:D2=true:=by cases D2 <;> simp_all
    subst hd1 hd2
    have HF:Hid (queryT l=(3,[])):=hId (by rw [HR.out,HEA.out (HEP.out.trans rfl),if_pos rfl])
    clear hde heq htl
    go_wp2_with fail
    go_ret2
    exact RTxt.fault HF.out HMP.out
   have HE1:Hid ((l.take (k+1)).any emptyP=false):=hId (by rw [HEN.out,HEP.out,hde])
   have HRG:Hid (∀ b:Bool,b=(D1&&D2)→b=false):=hId (fun b e=>by rw [e,hde])
   go_cut [19] (fun s19 wx=>s19= .bool false∧w1=wx)
   case first=>
    clear HRG HE1 HEN HEA HTN
    cases D1
    ·go_wp2_with fail
     go_meet
     case rel=>exact⟨rfl,rfl⟩
    ·cases D2
     ·go_wp2_with fail
      go_meet
      case rel=>exact⟨rfl,rfl⟩
     ·cases hde
   case rest=>
    obtain⟨rfl,rfl⟩:=hcut
    go_upto_region 9 with(fail)
    clear e0 e1 el HEP HEN HEA HRG
    have q1:=fun W=>msg_queryWord xn W (by omega)
    have q2:=fun W=>msg_queryWord xv W (by omega)
    have hw1:=wordQ_length xn
    have hw2:=wordQ_length xv
    have hs1:(⟨(wordQ xn).toArray⟩:ByteArray).size≤9000:=by show(List.toArray _).size≤_;rw [List.size_toArray];omega
    have hs2:(⟨(wordQ xv).toArray⟩:ByteArray).size≤9000:=by show(List.toArray _).size≤_;rw [List.size_toArray];omega
    generalize (⟨(wordQ xn).toArray⟩:ByteArray)=T1 at *
    generalize (⟨(wordQ xv).toArray⟩:ByteArray)=T2 at *
    have hy1:¬ 9223372036854775807<T1.size+(⟨#[61]⟩:ByteArray).size:=by have:(⟨#[61]⟩:ByteArray).size=1:=rfl;omega
    have hy1b:¬ 9223372036854775807<T1.size+1:=by omega
    have hy2:¬ 9223372036854775807<(T1++(⟨#[61]⟩:ByteArray)).size+T2.size:=by rw [ByteArray.size_append];have:(⟨#[61]⟩:ByteArray).size=1:=rfl;omega
    have hy2b:¬ 9223372036854775807<T1.size+1+T2.size:=by omega
    have hy2c:¬ 9223372036854775807<(T1++(⟨#[61]⟩:ByteArray)++T2).size:=by rw [ByteArray.size_append,ByteArray.size_append];have:(⟨#[61]⟩:ByteArray).size=1:=rfl;omega
    have HS1:Hid (∀ W,New w1 W→(W.cell? ⟨pb,0,none⟩=some (.string xn)∧W.cell? ⟨pb,1,none⟩=some (.string xv)∧pb<W.heap.size)):=hId (fun W hW=>by
     have h:=HBP.out.mod hW (fun e=>e)
     exact⟨(h.cell 0).trans rfl,(h.cell 1).trans rfl,h.lt⟩)
    have hn1:New w1 w1.drew:=(Mod.refl _ _).drew
    refine wp_region_held_ord (fun W=>W.cell? ⟨pb,0,none⟩=some (.string xn)∧W.cell? ⟨pb,1,none⟩=some (.string xv)∧pb<W.heap.size) [3,7,9] [0,1,2,5,6,3,4,7,8,9] (by kernel_rfl) (by kernel_rfl) (fun _ _ d _ _ h=>by cases d <;> exact h) ?_ (fun hHeld=>?_)
    ·exact HS1.out _ hn1
    simp only [List.length_cons,List.length_nil,List.drop_succ_cons,List.drop_zero]
    refine heldO_take ?_ (by rfl) (by rfl) (by rfl) (fun w hSw=>?_) ?_
    rotate_left
    ·(try dsimp only at hSw);go_simp;any_goals (with_reducible rfl)
    simp only [Act.put,lgt,lgz,lgs,lzt,lsz,lss]
    refine heldO_take ?_ (by rfl) (by rfl) (by rfl) (fun w hSw=>?_) ?_
    rotate_left
    ·(try dsimp only at hSw);go_simp;any_goals (with_reducible rfl)
    simp only [Act.put,lgt,lgz,lgs,lzt,lsz,lss]
    refine heldO_take ?_ (by rfl) (by rfl) (by rfl) (fun w hSw=>?_) ?_
    rotate_left
    ·(try dsimp only at hSw);go_simp;any_goals (with_reducible rfl)
    simp only [Act.put,lgt,lgz,lgs,lzt,lsz,lss]
    refine heldO_take ?_ (by rfl) (by rfl) (by rfl) (fun w hSw=>?_) ?_
    rotate_left
    ·(try dsimp only at hSw);go_simp;any_goals (with_reducible rfl)
    simp only [Act.put,lgt,lgz,lgs,lzt,lsz,lss]
    refine heldO_take ?_ (by rfl) (by rfl) (by rfl) (fun w hSw=>?_) ?_
    rotate_left
    ·(try dsimp only at hSw);go_simp;any_goals (with_reducible rfl)
    simp only [Act.put,lgt,lgz,lgs,lzt,lsz,lss]
    refine heldO_step (by rfl) (by rfl) (by rfl) (fun K hK=>?_)
    go_simp
    refine(q1 _).mono ?_
    clear q1
    rintro e w5 ⟨rfl,m5⟩
    have m15:=hn1.trans m5
    go_wp2_with fail
    refine hK.out _ _ (HS1.out _ m15) (fun hHeld=>?_)
    clear hK K m5
    try simp only [Act.put,lzt,lsz,lss]
    refine heldO_take ?_ (by rfl) (by rfl) (by rfl) (fun w hSw=>?_) ?_
    rotate_left
    ·(try dsimp only at hSw);go_simp;any_goals (with_reducible rfl)
    simp only [Act.put,lgt,lgz,lgs,lzt,lsz,lss]
    refine heldO_step (by rfl) (by rfl) (by rfl) (fun K hK=>?_)
    go_simp
    refine(q2 _).mono ?_
    clear q2
    rintro e w6 ⟨rfl,m6⟩
    have m16:=m15.trans m6
    go_wp2_with fail
    refine hK.out _ _ (HS1.out _ m16) (fun hHeld=>?_)
    clear hK K m6
    try simp only [Act.put,lzt,lsz,lss]
    refine heldO_take ?_ (by rfl) (by rfl) (by rfl) (fun w hSw=>?_) ?_
    rotate_left
    ·(try dsimp only at hSw);go_simp;any_goals (with_reducible rfl)
    simp only [Act.put,lgt,lgz,lgs,lzt,lsz,lss]
    try rw [heq]
    refine heldO_step (by rfl) (by rfl) (by rfl) (fun K hK=>?_)
    go_simp
    have m17:New w1 (w6.alloc (.cells #[.string (pairTB (xn,xv))] 9)):=m16.alloc _
    have hBn:=Blk.new w6 9 #[.string (pairTB (xn,xv))]
    refine hK.out _ _ (HS1.out _ m17) (fun hHeld=>?_)
    clear hK K
    try simp only [Act.put,lzt,lsz,lss]
    refine heldO_nil ?_
    have HO6:=hId (HOP.out.new m16)
    have HM6:=hId (HMP.out.trans m16)
    clear m17 m16 m15 hn1 HOP HMP
    have hW6:BB≤w6.heap.size:=by have:=HM6.out.size;omega
    have hBq:BB≤(w6.alloc (.cells #[.string (pairTB (xn,xv))] 9)).heap.size:=by simp;omega
    have HOA:=HO6.out.alloc (.cells #[.string (pairTB (xn,xv))] 9)
    go_wp2_with (at_builtin;refine wpList_push rfl _ _ _ rfl 16 Tryz.underlying26 einfo_str rfl HOA (pairTB (xn,xv)) w6.heap.size rfl hBn (fun j hj=>sEnc_one _ j hj) (by omega) (by omega) hBq ?_;intro g8 cap8 w8 own8 hm8 hat8 hlt8)
    have HO8:Hid (Own w8 BB 9 1 sEnc (some ⟨g8,0,none⟩) (k+1) cap8 ((l.take (k+1)).map pairTB)):=hId (by rw [HTN.out];exact own8)
    have HM8:Hid (New w w8):=hId ((HM6.out.alloc (.cells #[.string (pairTB (xn,xv))] 9)).step hm8 (fun i hi e=>by have:=HOF.out i e;have:=HBB.out;omega))
    clear own8 hm8
    go_roundw
    case rel=>exact⟨k+1,cap8,some ⟨g8,0,none⟩,by omega,by go_num,rfl,HE1,HO8,HM8⟩
    case measure=>simp [intOf];omega
  ·obtain rfl:k=n:=by omega
   have htk:l.take k=l:=List.take_of_length_le (by have:=HL.out;omega)
   rw [htk]at HE HO
   have HR1:Hid (queryT l=if 1000<(Lib.join (l.map pairT) [38]).length then(2,[]) else(0,Lib.join (l.map pairT) [38])):=hId (by rw [HR.out,HE.out];rfl)
   have hj:=join_own (l.map pairTB) A' k c' BB 38 wr HO.out (fun y hy=>by
    obtain⟨p,hp,rfl⟩:=List.mem_map.1 hy
    have h1:=pairT_length p
    have h2:=HZ.out p hp
    show(List.toArray _).size≤_
    rw [List.size_toArray]
    omega) (by omega)
   rw [queryT_join]at hj
   have hJz:(⟨(Lib.join (l.map pairT) [38]).toArray⟩:ByteArray).size=(Lib.join (l.map pairT) [38]).length:=by show(List.toArray _).size=_;rw [List.size_toArray]
   clear HR htk
   generalize Lib.join (l.map pairT) [38]=J at *
   by_cases h1:1000<J.length
   ·have HF:=hId (HR1.out.trans (if_pos h1))
    have h1':(1000:Int)<((⟨J.toArray⟩:ByteArray).size:Int):=by omega
    clear HR1 hJz
    generalize (⟨J.toArray⟩:ByteArray)=JB at *
    go_wp2_with fail
    refine hj.mono ?_
    clear hj
    rintro e w3 ⟨rfl,m3⟩
    have HM3:=hId (HM.out.trans m3)
    clear m3
    go_wp2_with fail
    go_ret2
    exact RTxt.fault HF.out HM3.out
   ·have HF:=hId (HR1.out.trans (if_neg h1))
    have h1':¬ (1000:Int)<((⟨J.toArray⟩:ByteArray).size:Int):=by omega
    have HJB:Hid (queryT l=(0,(⟨J.toArray⟩:ByteArray).data.toList)):=hId HF.out
    clear HR1 hJz HF
    generalize (⟨J.toArray⟩:ByteArray)=JB at *
    go_wp2_with fail
    refine hj.mono ?_
    clear hj
    rintro e w3 ⟨rfl,m3⟩
    have HM3:=hId (HM.out.trans m3)
    clear m3
    go_wp2_with fail
    go_ret2
    exact⟨by rw [HJB.out];rfl,HM3.out⟩
set_option maxRecDepth 100000 in
set_option maxHeartbeats 2000000 in
theorem msg_normal (r:ReqD) (ls:List PairD) (w:World) (h:HSl w r.ha r.hn ls) (hf:r.Fit ls) (hx:MaxLn w):
  Calls Tryz.prog 79 #[r.val] w (RNrm (normOf (r.data ls)) w):=by
 have HCK:=hId (fun W (hm:New w W)=>msg_checkRequest r ls W (h.new hm) hf (hx.new hm))
 obtain⟨D,hD⟩:∃ D,r.data ls=D:=⟨_,rfl⟩
 have HDD:=hId hD
 rw [hD]
 rw [hD]at HCK
 clear hD
 obtain⟨at_,me,ho,pa,qu,fr,A,n,c,bo⟩:=r
 obtain⟨i0,z1,z2,z3,z4,z5,z6,z7,z8⟩:=hf
 simp only [ReqD.val]at h z1 z2 z3 z4 z5 z6 z7 HCK ⊢
 have HHS:=hId h
 have HHX:=hId hx
 have HZ8:=hId z8
 clear h hx z8 i0 z5 z6
 have hb:=Blk.new w 33 #[.int .i64 at_,.string me,.string ho,.string pa,.string qu,.string fr,.slice A n c,.string bo]
 have hm:New w (w.alloc (.cells #[.int .i64 at_,.string me,.string ho,.string pa,.string qu,.string fr,.slice A n c,.string bo] 33)):=(Mod.refl _ _).alloc _
 have hz1:(w.alloc (.cells #[.int .i64 at_,.string me,.string ho,.string pa,.string qu,.string fr,.slice A n c,.string bo] 33)).heap.size=w.heap.size+1:=by simp
 go_enter Tryz.func79,Tryz.ntmps79
 go_upto_region 1 with(fail)
 generalize w.alloc (.cells #[.int .i64 at_,.string me,.string ho,.string pa,.string qu,.string fr,.slice A n c,.string bo] 33)=wA at *
 have hr:=Blk.new wA 33 zReq
 have hm2:New wA (wA.alloc (.cells zReq 33)):=(Mod.refl _ _).alloc _
 have HX:=hId (hb.new2 hm2)
 have HM:=hId (hm.trans hm2)
 rw [hz1]at hr
 have HR:=hId hr
 clear hb hm hr hm2
 generalize wA.alloc (.cells zReq 33)=w1 at *
 have HRB:Hid (w.heap.size≤w.heap.size+1):=hId (by omega)
 have hxr:w.heap.size≠w.heap.size+1:=by omega
 clear hz1
 generalize hxb:w.heap.size=xb at *
 have HXB:=hId hxb
 clear hxb
 generalize hrb:xb+1=rb at *
 have HRX:=hId hrb
 clear hrb
 have HN0:Hid (normOf D=if reqF D≠0 then(reqF D,zReqL) else if (pathN pa).1≠0 then((pathN pa).1,zReqL) else if (queryOf qu).1≠0 then((queryOf qu).1,zReqL) else
  if (queryT (sortQ (queryOf qu).2)).1≠0 then((queryT (sortQ (queryOf qu).2)).1,zReqL) else
  (0,⟨at_,upS me,⟨(hostN ho.data.toList).toArray⟩,⟨(pathN pa).2.toArray⟩,⟨(queryT (sortQ (queryOf qu).2)).2.toArray⟩,fr,lowH ls,bo⟩)):=hId (by rw [← HDD.out];rfl)
 have HRT:Hid (reqF D=0→isTok me=true∧hostForm ho=true∧headsF ls=0):=hId (fun e=>by
  rw [← HDD.out]at e
  have:=reqF_right e
  exact⟨this.tok,this.host,this.heads⟩)
 clear HDD
 have q:=HCK.out w1 HM.out
 clear HCK
 generalize reqF D=F at *
 have e0:=HX.out.cell 0
 have e1:=HX.out.cell 1
 have e2:=HX.out.cell 2
 have e3:=HX.out.cell 3
 have e4:=HX.out.cell 4
 have e5:=HX.out.cell 5
 have e6:=HX.out.cell 6
 have e7:=HX.out.cell 7
 have el:=HX.out.lt
 simp only [lqt,lqz,lqs]at e0 e1 e2 e3 e4 e5 e6 e7
 go_wp2_with fail
 refine q.mono ?_
 clear q
 rintro e w2 ⟨rfl,m2⟩
 clear e0 e1 e2 e3 e4 e5 e6 e7 el
 have HX1:=hId (HX.out.new2 m2)
 have HR1:=hId (HR.out.new2 m2)
 have HM1:=hId (HM.out.trans m2)
 clear HX HR HM m2
 have HX:=HX1
 have HR:=HR1
 have HM:=HM1
 clear HX1 HR1 HM1
 have e0:=HX.out.cell 0
 have e1:=HX.out.cell 1
 have e2:=HX.out.cell 2
 have e3:=HX.out.cell 3
 have e4:=HX.out.cell 4
 have e5:=HX.out.cell 5
 have e6:=HX.out.cell 6
 have e7:=HX.out.cell 7
 have el:=HX.out.lt
 simp only [lqt,lqz,lqs]at e0 e1 e2 e3 e4 e5 e6 e7
 by_cases g0:F≠0
 ·have g0b:(F != 0)=true:=by simpa using g0
  have HQ:=hId (HN0.out.trans (if_pos g0))
  clear HN0 g0 HRT
  have HFIN:Hid (∀ W',Mod (fun k=>k=rb) w2 W'→normOf D=(F,zReqL)→RNrm (normOf D) w (.returned (.tuple #[reqV zReqL none 0 0,.int .i64 F])) W'):=hId (fun W' hm hq=>RNrm.fault hq (HM.out.step hm (fun i hi e=>by have h1:=HXB.out;have h2:=HRX.out;omega)))
  clear HM
  have hcR:=HR.out.cell
  have hfR:=HR.out.frozen
  have rlt:=HR.out.lt
  have HMF:=hId (fun (v0 v1 v2 v3 v4 v5 v6 v7:Value)=>(Mod.set8 rb w2 v0 v1 v2 v3 v4 v5 v6 v7))
  clear HR HX
  go_wp2_with fail
  refine bodyPost_ret (v:=(.tuple #[reqV zReqL none 0 0,.int .i64 F])) (by simp [results,Tryz.results79,go_sem,hcR,hfR,rlt,reqV,zReqL]) rfl ?_
  refine HFIN.out _ (HMF.out _ _ _ _ _ _ _ _) ?_
  exact HQ.out
 have g0b:(F != 0)=false:=by simpa using g0
 obtain⟨htok,hhost,hheads⟩:=HRT.out (by simpa using g0)
 have HN1:=hId (HN0.out.trans (if_neg g0))
 have HTK:=hId htok
 have HHD:=hId (heads_tok hheads)
 clear HN0 g0 HRT htok hheads
 have q:=msg_normalHost ho w2 (by omega) (HHX.out.new HM.out)
 unfold RHost at q
 simp only [hhost,if_true]at q
 clear hhost
 generalize (⟨(hostN ho.data.toList).toArray⟩:ByteArray)=HN at *
 go_wp2_with fail
 refine q.mono ?_
 clear q
 rintro e w3 ⟨rfl,m3⟩
 clear e0 e1 e2 e3 e4 e5 e6 e7 el
 have HX1:=hId (HX.out.new2 m3)
 have HR1:=hId (HR.out.new2 m3)
 have HM1:=hId (HM.out.trans m3)
 clear HX HR HM m3
 have HX:=HX1
 have HR:=HR1
 have HM:=HM1
 clear HX1 HR1 HM1
 have e0:=HX.out.cell 0
 have e1:=HX.out.cell 1
 have e2:=HX.out.cell 2
 have e3:=HX.out.cell 3
 have e4:=HX.out.cell 4
 have e5:=HX.out.cell 5
 have e6:=HX.out.cell 6
 have e7:=HX.out.cell 7
 have el:=HX.out.lt
 simp only [lqt,lqz,lqs]at e0 e1 e2 e3 e4 e5 e6 e7
 have q:=msg_normalPath pa w3 (by omega) (HHX.out.new HM.out)
 generalize pathN pa=P at *
 obtain⟨pe,pt⟩:=P
 unfold RTxt at q
 simp only at q HN1
 generalize (⟨pt.toArray⟩:ByteArray)=PT at *
 go_wp2_with fail
 refine q.mono ?_
 clear q
 rintro e w4 ⟨rfl,m4⟩
 clear e0 e1 e2 e3 e4 e5 e6 e7 el
 have HX1:=hId (HX.out.new2 m4)
 have HR1:=hId (HR.out.new2 m4)
 have HM1:=hId (HM.out.trans m4)
 clear HX HR HM m4
 have HX:=HX1
 have HR:=HR1
 have HM:=HM1
 clear HX1 HR1 HM1
 have e0:=HX.out.cell 0
 have e1:=HX.out.cell 1
 have e2:=HX.out.cell 2
 have e3:=HX.out.cell 3
 have e4:=HX.out.cell 4
 have e5:=HX.out.cell 5
 have e6:=HX.out.cell 6
 have e7:=HX.out.cell 7
 have el:=HX.out.lt
 simp only [lqt,lqz,lqs]at e0 e1 e2 e3 e4 e5 e6 e7
 by_cases g1:pe≠0
 ·have g1b:(pe != 0)=true:=by simpa using g1
  have HQ:=hId (HN1.out.trans (if_pos g1))
  clear HN1 g1
  have HFIN:Hid (∀ W',Mod (fun k=>k=rb) w4 W'→normOf D=(pe,zReqL)→RNrm (normOf D) w (.returned (.tuple #[reqV zReqL none 0 0,.int .i64 pe])) W'):=hId (fun W' hm hq=>RNrm.fault hq (HM.out.step hm (fun i hi e=>by have h1:=HXB.out;have h2:=HRX.out;omega)))
  clear HM
  have hcR:=HR.out.cell
  have hfR:=HR.out.frozen
  have rlt:=HR.out.lt
  have HMF:=hId (fun (v0 v1 v2 v3 v4 v5 v6 v7:Value)=>(Mod.set8 rb w4 v0 v1 v2 v3 v4 v5 v6 v7))
  clear HR HX
  go_wp2_with fail
  refine bodyPost_ret (v:=(.tuple #[reqV zReqL none 0 0,.int .i64 pe])) (by simp [results,Tryz.results79,go_sem,hcR,hfR,rlt,reqV,zReqL]) rfl ?_
  refine HFIN.out _ (HMF.out _ _ _ _ _ _ _ _) ?_
  exact HQ.out
 have g1b:(pe != 0)=false:=by simpa using g1
 have HN2:=hId (HN1.out.trans (if_neg g1))
 clear HN1 g1
 have q:=msg_parseQuery qu w4 (by omega) (HHX.out.new HM.out)
 have HQS:=hId (queryOf_size qu)
 generalize queryOf qu=Q at *
 obtain⟨qe,ql⟩:=Q
 unfold RQry at q
 simp only at q HN2 HQS
 go_wp2_with fail
 refine q.mono ?_
 clear q
 rintro e w5 ⟨Aq,nq,cq,rfl,own5,m5⟩
 have HO5:=hId own5
 have HOF:Hid (∀ g',blkOf Aq=some g'→w4.heap.size≤g'):=hId (fun g' e=>HO5.out.farS g' e)
 have HB5:Hid (xb+2≤w4.heap.size):=hId (by have:=HR.out.lt;have:=HRX.out;omega)
 generalize w4.heap.size=B5 at *
 clear e0 e1 e2 e3 e4 e5 e6 e7 el
 have HX1:=hId (HX.out.new2 m5)
 have HR1:=hId (HR.out.new2 m5)
 have HM1:=hId (HM.out.trans m5)
 clear HX HR HM m5
 have HX:=HX1
 have HR:=HR1
 have HM:=HM1
 clear HX1 HR1 HM1
 have e0:=HX.out.cell 0
 have e1:=HX.out.cell 1
 have e2:=HX.out.cell 2
 have e3:=HX.out.cell 3
 have e4:=HX.out.cell 4
 have e5:=HX.out.cell 5
 have e6:=HX.out.cell 6
 have e7:=HX.out.cell 7
 have el:=HX.out.lt
 simp only [lqt,lqz,lqs]at e0 e1 e2 e3 e4 e5 e6 e7
 clear own5
 by_cases g2:qe≠0
 ·have g2b:(qe != 0)=true:=by simpa using g2
  have HQ:=hId (HN2.out.trans (if_pos g2))
  clear HN2 g2
  have HFIN:Hid (∀ W',Mod (fun k=>k=rb) w5 W'→normOf D=(qe,zReqL)→RNrm (normOf D) w (.returned (.tuple #[reqV zReqL none 0 0,.int .i64 qe])) W'):=hId (fun W' hm hq=>RNrm.fault hq (HM.out.step hm (fun i hi e=>by have h1:=HXB.out;have h2:=HRX.out;omega)))
  clear HM
  have hcR:=HR.out.cell
  have hfR:=HR.out.frozen
  have rlt:=HR.out.lt
  have HMF:=hId (fun (v0 v1 v2 v3 v4 v5 v6 v7:Value)=>(Mod.set8 rb w5 v0 v1 v2 v3 v4 v5 v6 v7))
  clear HR HX
  go_wp2_with fail
  refine bodyPost_ret (v:=(.tuple #[reqV zReqL none 0 0,.int .i64 qe])) (by simp [results,Tryz.results79,go_sem,hcR,hfR,rlt,reqV,zReqL]) rfl ?_
  refine HFIN.out _ (HMF.out _ _ _ _ _ _ _ _) ?_
  exact HQ.out
 have g2b:(qe != 0)=false:=by simpa using g2
 have HN3:=hId (HN2.out.trans (if_neg g2))
 clear HN2 g2
 have hq100:=HQS.out.1
 have hq5:ql.length=nq:=HO5.out.1
 have q:=deleteFunc_q 147 enters_nrm1 w5 B5 Aq nq cq ql emptyP HO5.out (fun m _ wr _=>nrm_empty m wr) (by omega)
 unfold RDelQ at q
 go_wp2_with fail
 refine q.mono ?_
 clear q
 rintro e w6 ⟨rfl,own6,m6⟩
 have HO6:=hId own6
 clear e0 e1 e2 e3 e4 e5 e6 e7 el
 have HX1:=hId (HX.out.mod m6 (fun e=>by have:=HOF.out _ e;have:=HB5.out;have:=HRX.out;omega))
 have HR1:=hId (HR.out.mod m6 (fun e=>by have:=HOF.out _ e;have:=HB5.out;have:=HRX.out;omega))
 have HM1:=hId (HM.out.step m6 (fun i hi e=>by have:=HOF.out _ e;have:=HB5.out;have:=HXB.out;omega))
 clear HX HR HM m6
 have HX:=HX1
 have HR:=HR1
 have HM:=HM1
 clear HX1 HR1 HM1
 have e0:=HX.out.cell 0
 have e1:=HX.out.cell 1
 have e2:=HX.out.cell 2
 have e3:=HX.out.cell 3
 have e4:=HX.out.cell 4
 have e5:=HX.out.cell 5
 have e6:=HX.out.cell 6
 have e7:=HX.out.cell 7
 have el:=HX.out.lt
 simp only [lqt,lqz,lqs]at e0 e1 e2 e3 e4 e5 e6 e7
 clear own6 HO5
 have hsl:(ql.filter fun m=>!emptyP m).length≤100:=by have:=List.length_filter_le (fun m=>!emptyP m) ql;omega
 have hso:(ql.filter fun m=>!emptyP m).mergeSort leQ=sortQ ql:=rfl
 have HSM:=hId (fun (p:PairD) (hp:p∈sortQ ql)=>HQS.out.2 p (sortQ_mem hp))
 have q:=sortFunc_q w6 B5 Aq (ql.filter fun m=>!emptyP m).length cq (ql.filter fun m=>!emptyP m) HO6.out (by omega)
 unfold RSrtQ at q
 rw [hso]at q
 generalize (ql.filter fun m=>!emptyP m).length=ns at *
 clear hso HQS hq100 hq5
 go_wp2_with fail
 refine q.mono ?_
 clear q
 rintro e w7 ⟨rfl,own7,m7⟩
 have HO7:=hId own7
 clear e0 e1 e2 e3 e4 e5 e6 e7 el
 have HX1:=hId (HX.out.mod m7 (fun e=>by have:=HOF.out _ e;have:=HB5.out;have:=HRX.out;omega))
 have HR1:=hId (HR.out.mod m7 (fun e=>by have:=HOF.out _ e;have:=HB5.out;have:=HRX.out;omega))
 have HM1:=hId (HM.out.step m7 (fun i hi e=>by have:=HOF.out _ e;have:=HB5.out;have:=HXB.out;omega))
 clear HX HR HM m7
 have HX:=HX1
 have HR:=HR1
 have HM:=HM1
 clear HX1 HR1 HM1
 have e0:=HX.out.cell 0
 have e1:=HX.out.cell 1
 have e2:=HX.out.cell 2
 have e3:=HX.out.cell 3
 have e4:=HX.out.cell 4
 have e5:=HX.out.cell 5
 have e6:=HX.out.cell 6
 have e7:=HX.out.cell 7
 have el:=HX.out.lt
 simp only [lqt,lqz,lqs]at e0 e1 e2 e3 e4 e5 e6 e7
 clear own7 HO6
 have q:=msg_queryText Aq ns cq (sortQ ql) w7 HO7.out.sl (by omega) (fun p hp=>by have:=HSM.out p hp;omega)
 clear HSM
 generalize queryT (sortQ ql)=T at *
 obtain⟨te,tt⟩:=T
 unfold RTxt at q
 simp only at q HN3
 generalize (⟨tt.toArray⟩:ByteArray)=TT at *
 go_wp2_with fail
 refine q.mono ?_
 clear q
 rintro e w8 ⟨rfl,m8⟩
 clear e0 e1 e2 e3 e4 e5 e6 e7 el
 have HX1:=hId (HX.out.new2 m8)
 have HR1:=hId (HR.out.new2 m8)
 have HM1:=hId (HM.out.trans m8)
 clear HX HR HM m8
 have HX:=HX1
 have HR:=HR1
 have HM:=HM1
 clear HX1 HR1 HM1
 have e0:=HX.out.cell 0
 have e1:=HX.out.cell 1
 have e2:=HX.out.cell 2
 have e3:=HX.out.cell 3
 have e4:=HX.out.cell 4
 have e5:=HX.out.cell 5
 have e6:=HX.out.cell 6
 have e7:=HX.out.cell 7
 have el:=HX.out.lt
 simp only [lqt,lqz,lqs]at e0 e1 e2 e3 e4 e5 e6 e7
 clear HO7
 by_cases g3:te≠0
 ·have g3b:(te != 0)=true:=by simpa using g3
  have HQ:=hId (HN3.out.trans (if_pos g3))
  clear HN3 g3
  have HFIN:Hid (∀ W',Mod (fun k=>k=rb) w8 W'→normOf D=(te,zReqL)→RNrm (normOf D) w (.returned (.tuple #[reqV zReqL none 0 0,.int .i64 te])) W'):=hId (fun W' hm hq=>RNrm.fault hq (HM.out.step hm (fun i hi e=>by have h1:=HXB.out;have h2:=HRX.out;omega)))
  clear HM
  have hcR:=HR.out.cell
  have hfR:=HR.out.frozen
  have rlt:=HR.out.lt
  have HMF:=hId (fun (v0 v1 v2 v3 v4 v5 v6 v7:Value)=>(Mod.set8 rb w8 v0 v1 v2 v3 v4 v5 v6 v7))
  clear HR HX
  go_wp2_with fail
  refine bodyPost_ret (v:=(.tuple #[reqV zReqL none 0 0,.int .i64 te])) (by simp [results,Tryz.results79,go_sem,hcR,hfR,rlt,reqV,zReqL]) rfl ?_
  refine HFIN.out _ (HMF.out _ _ _ _ _ _ _ _) ?_
  exact HQ.out
 have g3b:(te != 0)=false:=by simpa using g3
 have HN4:=hId (HN3.out.trans (if_neg g3))
 clear HN3 g3 HOF HB5
 have q:=Tryz.strings_ToUpper_ascii me w8 (by omega) (tok_ascii_all HTK.out)
 have HUP:Hid ((⟨(Lib.toUpperA me.data.toList).toArray⟩:ByteArray)=upS me):=hId rfl
 rw [HUP.out]at q
 generalize upS me=UM at *
 clear HUP HTK
 go_wp2_with fail
 refine q.mono ?_
 clear q
 rintro e w9 ⟨rfl,mb9⟩
 have m9:New w8 w9:=Mod.of_below mb9
 clear mb9
 clear e0 e1 e2 e3 e4 e5 e6 e7 el
 have HX1:=hId (HX.out.new2 m9)
 have HR1:=hId (HR.out.new2 m9)
 have HM1:=hId (HM.out.trans m9)
 clear HX HR HM m9
 have HX:=HX1
 have HR:=HR1
 have HM:=HM1
 clear HX1 HR1 HM1
 have e0:=HX.out.cell 0
 have e1:=HX.out.cell 1
 have e2:=HX.out.cell 2
 have e3:=HX.out.cell 3
 have e4:=HX.out.cell 4
 have e5:=HX.out.cell 5
 have e6:=HX.out.cell 6
 have e7:=HX.out.cell 7
 have el:=HX.out.lt
 simp only [lqt,lqz,lqs]at e0 e1 e2 e3 e4 e5 e6 e7
 have hfx:=HX.out.frozen
 go_upto_region 17 with(fail)
 clear hfx
 clear e0 e1 e2 e3 e4 e5 e6 e7 el
 have HX10:=hId ((((HX.out.set 2 (.string HN)).set 3 (.string PT)).set 4 (.string TT)).set 1 (.string UM))
 simp only [Array.setIfInBounds,List.size_toArray,List.length_cons,List.length_nil,Nat.reduceAdd,Nat.reduceLT,↓reduceDIte,List.set_toArray,lsz,lss]at HX10
 have HMX:Hid (Mod (fun k=>k=xb) w9 ((((w9.setCell ⟨xb,2,none⟩ (.string HN)).setCell ⟨xb,3,none⟩ (.string PT)).setCell ⟨xb,4,none⟩ (.string TT)).setCell ⟨xb,1,none⟩ (.string UM))):=hId (Mod.setCell (S:=fun k=>k=xb) (p:=⟨xb,1,none⟩) (Mod.setCell (S:=fun k=>k=xb) (p:=⟨xb,4,none⟩) (Mod.setCell (S:=fun k=>k=xb) (p:=⟨xb,3,none⟩) (Mod.setCell (S:=fun k=>k=xb) (p:=⟨xb,2,none⟩) (Mod.refl _ w9) (.inl rfl) _) (.inl rfl) _) (.inl rfl) _) (.inl rfl) _)
 have HR10:=hId (HR.out.mod HMX.out (fun e=>by have:=HRX.out;omega))
 have HM10:=hId (HM.out.step HMX.out (fun i hi e=>by have:=HXB.out;omega))
 clear HX HR HM HMX
 generalize (((w9.setCell ⟨xb,2,none⟩ (.string HN)).setCell ⟨xb,3,none⟩ (.string PT)).setCell ⟨xb,4,none⟩ (.string TT)).setCell ⟨xb,1,none⟩ (.string UM)=w10 at *
 have HX:=HX10
 have HR:=HR10
 have HM:=HM10
 clear HX10 HR10 HM10
 have q:=cloneH ls A n c w10 (HHS.out.new HM.out) (by omega)
 unfold RCloneH at q
 have e0:=HX.out.cell 0
 have e1:=HX.out.cell 1
 have e2:=HX.out.cell 2
 have e3:=HX.out.cell 3
 have e4:=HX.out.cell 4
 have e5:=HX.out.cell 5
 have e6:=HX.out.cell 6
 have e7:=HX.out.cell 7
 have el:=HX.out.lt
 simp only [lqt,lqz,lqs]at e0 e1 e2 e3 e4 e5 e6 e7
 go_wp2_with fail
 refine q.mono ?_
 clear q
 rintro e w11 ⟨A2,c2,rfl,own11,m11⟩
 have HO11:=hId own11
 have HOF:Hid (∀ g',blkOf A2=some g'→w10.heap.size≤g'):=hId (fun g' e=>HO11.out.farS g' e)
 have HB11:Hid (xb+2≤w10.heap.size):=hId (by have:=HR.out.lt;have:=HRX.out;omega)
 generalize w10.heap.size=B11 at *
 clear e0 e1 e2 e3 e4 e5 e6 e7 el
 have HX1:=hId (HX.out.new2 m11)
 have HR1:=hId (HR.out.new2 m11)
 have HM1:=hId (HM.out.trans m11)
 clear HX HR HM m11
 have HX:=HX1
 have HR:=HR1
 have HM:=HM1
 clear HX1 HR1 HM1
 have e0:=HX.out.cell 0
 have e1:=HX.out.cell 1
 have e2:=HX.out.cell 2
 have e3:=HX.out.cell 3
 have e4:=HX.out.cell 4
 have e5:=HX.out.cell 5
 have e6:=HX.out.cell 6
 have e7:=HX.out.cell 7
 have el:=HX.out.lt
 simp only [lqt,lqz,lqs]at e0 e1 e2 e3 e4 e5 e6 e7
 clear own11
 have hfx:=HX.out.frozen
 go_upto_region 18 with(fail)
 clear e0 e1 e2 e3 e4 e5 e6 e7 el
 clear hfx
 have HX12:=hId (HX.out.set 6 (.slice A2 n c2))
 simp only [Array.setIfInBounds,List.size_toArray,List.length_cons,List.length_nil,Nat.reduceAdd,Nat.reduceLT,↓reduceDIte,List.set_toArray,lsz,lss]at HX12
 have HMX:Hid (Mod (fun k=>k=xb) w11 (w11.setCell ⟨xb,6,none⟩ (.slice A2 n c2))):=hId (Mod.setCell (S:=fun k=>k=xb) (p:=⟨xb,6,none⟩) (Mod.refl _ w11) (.inl rfl) _)
 have HR12:=hId (HR.out.mod HMX.out (fun e=>by have:=HRX.out;omega))
 have HM12:=hId (HM.out.step HMX.out (fun i hi e=>by have:=HXB.out;omega))
 have HO12:=hId (HO11.out.mod HMX.out (fun g e e2=>by have:=HOF.out g e;have:=HB11.out;omega))
 clear HX HR HM HMX HO11
 generalize w11.setCell ⟨xb,6,none⟩ (.slice A2 n c2)=w12 at *
 have HX:=HX12
 have HR:=HR12
 have HM:=HM12
 clear HX12 HR12 HM12
 have HLL:=hId HHS.out.1
 have e0:=HX.out.cell 0
 have e1:=HX.out.cell 1
 have e2:=HX.out.cell 2
 have e3:=HX.out.cell 3
 have e4:=HX.out.cell 4
 have e5:=HX.out.cell 5
 have e6:=HX.out.cell 6
 have e7:=HX.out.cell 7
 have el:=HX.out.lt
 simp only [lqt,lqz,lqs]at e0 e1 e2 e3 e4 e5 e6 e7
 go_wp2_with fail
 clear e0 e1 e2 e3 e4 e5 e6 e7 el
 go_loopw [75] (fun i wr=>∃ k:Nat,k≤n∧i= .int .i64 k∧Hid (Own wr B11 54 2 pairEnc A2 n c2 (lowTo ls k))∧Hid (Blk wr xb 33 #[.int .i64 at_,.string UM,.string HN,.string PT,.string TT,.string fr,.slice A2 n c2,.string bo])∧Hid (Blk wr rb 33 zReq)∧Hid (New w wr)) (fun i _=>n -(intOf i).toNat)
 case atStart=>exact⟨0,Nat.zero_le _,rfl,hId (by rw [lowTo_zero];exact HO12.out),HX,HR,HM⟩
 case round=>
  clear HX HR HM HO12
  rename World=>wr
  obtain⟨k,hk,rfl,HO,HX,HR,HM⟩:=hrel
  by_cases hlt:k<n
  ·have hkl:k<ls.length:=by have:=HLL.out;omega
   have hkL:k<(lowTo ls k).length:=by rw [lowTo_len ls k (Nat.le_of_lt hkl)];exact hkl
   obtain⟨g2,o2,hA,htb,hc0⟩:=HO.out.sl.2 (by omega)
   have hget:(lowTo ls k)[k]=ls[k]:=by
    have:=lowTo_get hkl
    rw [List.getElem?_eq_getElem hkL]at this
    injection this
   obtain⟨g3,hA3,-,-,-,-⟩:=HO.out.form (by omega)
   rw [hA]at hA3
   injection hA3 with hA3
   injection hA3 with hA4 hA5
   subst hA4 hA5
   subst hA
   have a0:=hc0 k hkL 0 (by omega)
   have a1:=hc0 k hkL 1 (by omega)
   rw [hget]at a0 a1
   have HTL:=hId (HHD.out ls[k] (List.getElem_mem hkl))
   have HSZ:=hId (HZ8.out ls[k] (List.getElem_mem hkl))
   have HSET:=hId (lowTo_set hkl)
   have HGT:=hId hget
   have HLO:Hid (lowP ls[k]=(loS ls[k].1,ls[k].2)):=hId rfl
   have HLB:Hid ((⟨(Lib.toLowerA ls[k].1.data.toList).toArray⟩:ByteArray)=loS ls[k].1):=hId rfl
   simp only [pairEnc,Nat.add_zero,Nat.zero_add]at a0 a1
   clear htb hc0 hget
   have HST:=hId (fun (W:World) (hO:Own W B11 54 2 pairEnc (some ⟨g2,0,none⟩) n c2 (lowTo ls k))=>by
    have h1:=hO.setQ0 hkL (lowP ls[k]) (by rw [HGT.out];rfl)
    rw [HSET.out]at h1
    exact h1)
   clear HGT HSET
   generalize ls[k]=x at *
   obtain⟨xn,xv⟩:=x
   simp only at a0 a1 HTL HSZ HLO HLB
   rw [HLO.out]at HST
   have q:=fun W=>Tryz.strings_ToLower_ascii xn W (by have:=HSZ.out.1;omega) (tok_ascii_all HTL.out)
   rw [HLB.out]at q
   generalize loS xn=LO at *
   clear HTL HLO HLB
   have hgl:=HO.out.sl
   have hg2:g2<wr.heap.size:=by
    obtain⟨cur,hb,-⟩:=HO.out.row
    exact hb.lt
   have hb2:(0:Int)≤k:=by omega
   have hb3:(k:Int)<n:=by omega
   have bp:=Blk.new wr 54 #[.string xn,.string xv]
   have mp:New wr (wr.alloc (.cells #[.string xn,.string xv] 54)):=(Mod.refl _ _).alloc _
   clear hgl
   go_upto_region 21 with(fail)
   have HO1:=hId (HO.out.new mp)
   have HX1:=hId (HX.out.new2 mp)
   have HR1:=hId (HR.out.new2 mp)
   have HM1:=hId (HM.out.trans mp)
   have HPB:=hId bp
   clear HO HX HR HM bp mp a0 a1 hg2
   generalize wr.alloc (.cells #[.string xn,.string xv] 54)=w1 at *
   generalize wr.heap.size=pb at *
   have HSC:Hid (∀ W,New w1 W→(W.cell? ⟨xb,6,none⟩=some (.slice (some ⟨g2,0,none⟩) n c2)∧xb<W.heap.size∧W.cell? ⟨pb,0,none⟩=some (.string xn)∧pb<W.heap.size)):=hId (fun W hW=>by
    have h1:=HX1.out.mod hW (fun e=>e)
    have h2:=HPB.out.mod hW (fun e=>e)
    exact⟨(h1.cell 6).trans rfl,h1.lt,(h2.cell 0).trans rfl,h2.lt⟩)
   have hn1:New w1 w1.drew:=(Mod.refl _ _).drew
   refine wp_region_held_ord (fun W=>W.cell? ⟨xb,6,none⟩=some (.slice (some ⟨g2,0,none⟩) n c2)∧xb<W.heap.size∧W.cell? ⟨pb,0,none⟩=some (.string xn)∧pb<W.heap.size) [5] [0,1,2,3,4,5] (by kernel_rfl) (by kernel_rfl) (fun _ _ d _ _ h=>by cases d <;> exact h) ?_ (fun hHeld=>?_)
   ·exact HSC.out _ hn1
   simp only [List.length_cons,List.length_nil,List.drop_succ_cons,List.drop_zero]
   refine heldO_take ?_ (by rfl) (by rfl) (by rfl) (fun w hSw=>?_) ?_
   rotate_left
   ·(try dsimp only at hSw);go_simp;any_goals (with_reducible rfl)
   simp only [Act.put,lgt,lgz,lgs,lzt,lsz,lss]
   refine heldO_take ?_ (by rfl) (by rfl) (by rfl) (fun w hSw=>?_) ?_
   rotate_left
   ·(try dsimp only at hSw);go_simp;any_goals (with_reducible rfl)
   simp only [Act.put,lgt,lgz,lgs,lzt,lsz,lss]
   refine heldO_take ?_ (by rfl) (by rfl) (by rfl) (fun w hSw=>?_) ?_
   rotate_left
   ·(try dsimp only at hSw);go_simp;any_goals (with_reducible rfl)
   simp only [Act.put,lgt,lgz,lgs,lzt,lsz,lss]
   refine heldO_take ?_ (by rfl) (by rfl) (by rfl) (fun w hSw=>?_) ?_
   rotate_left
   ·(try dsimp only at hSw);go_simp;any_goals (with_reducible rfl)
   simp only [Act.put,lgt,lgz,lgs,lzt,lsz,lss]
   refine heldO_take ?_ (by rfl) (by rfl) (by rfl) (fun w hSw=>?_) ?_
   rotate_left
   ·(try dsimp only at hSw);go_simp;any_goals (with_reducible rfl)
   simp only [Act.put,lgt,lgz,lgs,lzt,lsz,lss]
   refine heldO_step (by rfl) (by rfl) (by rfl) (fun K hK=>?_)
   go_simp
   refine(q _).mono ?_
   clear q
   rintro e w5 ⟨rfl,mb⟩
   have m15:=hn1.trans (Mod.of_below mb)
   go_wp2_with fail
   refine hK.out _ _ (HSC.out _ m15) (fun hHeld=>?_)
   clear hK K mb
   try simp only [Act.put,lzt,lsz,lss]
   refine heldO_nil ?_
   have HO5:=hId (HO1.out.new m15)
   have HX5:=hId (HX1.out.new2 m15)
   have HR5:=hId (HR1.out.new2 m15)
   have HM5:=hId (HM1.out.trans m15)
   clear HO1 HX1 HR1 HM1 HPB HSC m15 hn1 hHeld
   have gf:=HO5.out.frozen
   have gl:g2<w5.heap.size:=by
    obtain⟨cur,hb,-⟩:=HO5.out.row
    exact hb.lt
   obtain⟨g4,o4,hA6,htb6,hc6⟩:=HO5.out.sl.2 (by omega)
   injection hA6 with hA6
   injection hA6 with hA7 hA8
   subst hA7 hA8
   have a5:=hc6 k hkL 0 (by omega)
   simp only [Nat.add_zero,Nat.zero_add]at a5
   clear hc6 htb6
   have hcap:n≤c2:=by
    obtain⟨_,_,_,_,h5,_⟩:=HO5.out.form (by omega)
    exact h5
   have HMS:Hid (Mod (fun q=>q=g2) w5 (w5.setCell ⟨g2,k * 2,none⟩ (.string LO))):=hId (Mod.setCell (S:=fun q=>q=g2) (p:=⟨g2,k * 2,none⟩) (Mod.refl _ w5) (.inl rfl) _)
   have HO6:=hId (HST.out _ HO5.out)
   have HX6:=hId (HX5.out.mod HMS.out (fun e=>by have:=HOF.out g2 rfl;have:=HB11.out;omega))
   have HR6:=hId (HR5.out.mod HMS.out (fun e=>by have:=HOF.out g2 rfl;have:=HB11.out;have:=HRX.out;omega))
   have HM6:=hId (HM5.out.step HMS.out (fun i hi e=>by have:=HOF.out g2 rfl;have:=HB11.out;have:=HXB.out;omega))
   clear HO5 HX5 HR5 HM5 HMS
   go_wp2_with fail
   go_roundw
   case rel=>exact⟨k+1,by omega,by go_num,HO6,HX6,HR6,HM6⟩
   case measure=>simp [intOf];omega
  ·obtain rfl:k=n:=by omega
   have e9:lowTo ls k=lowH ls:=by have:=HLL.out;rw [← this];exact lowTo_all ls
   rw [e9]at HO
   have HFIN:Hid (∀ W',Mod (fun q=>q=rb) wr W'→True→RNrm (normOf D) w (.returned (.tuple #[reqV ⟨at_,UM,HN,PT,TT,fr,lowH ls,bo⟩ A2 k c2,.int .i64 0])) W'):=hId (fun W' hm _=>⟨A2,k,c2,by rw [HN4.out],by
    rw [HN4.out]
    exact(HO.out.mod hm (fun g e e2=>by have:=HOF.out g e;have:=HB11.out;have:=HRX.out;omega)).sl,HM.out.step hm (fun i hi e=>by have h1:=HXB.out;have h2:=HRX.out;omega)⟩)
   clear HM HO e9
   have e0:=HX.out.cell 0
   have e1:=HX.out.cell 1
   have e2:=HX.out.cell 2
   have e3:=HX.out.cell 3
   have e4:=HX.out.cell 4
   have e5:=HX.out.cell 5
   have e6:=HX.out.cell 6
   have e7:=HX.out.cell 7
   have el:=HX.out.lt
   simp only [lqt,lqz,lqs]at e0 e1 e2 e3 e4 e5 e6 e7
   have hcR:=HR.out.cell
   have hfR:=HR.out.frozen
   have rlt:=HR.out.lt
   have HMF:=hId (fun (v0 v1 v2 v3 v4 v5 v6 v7:Value)=>(Mod.set8 rb wr v0 v1 v2 v3 v4 v5 v6 v7))
   have hxr2:xb≠rb:=by have:=HRX.out;omega
   clear HR HX
   go_wp2_with fail
   refine bodyPost_ret (v:=.tuple #[reqV ⟨at_,UM,HN,PT,TT,fr,lowH ls,bo⟩ A2 k c2,.int .i64 0]) (by simp [results,Tryz.results79,go_sem,hcR,hfR,rlt,reqV]) rfl ?_
   exact HFIN.out _ (HMF.out _ _ _ _ _ _ _ _) trivial
end Go.Proofs.YtnlloaimplgjnaaGreatDoor
