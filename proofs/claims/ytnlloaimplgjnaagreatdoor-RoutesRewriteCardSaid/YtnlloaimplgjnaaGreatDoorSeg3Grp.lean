/- Several texts in one. (1) Segments of paths written; what is wrong with a path; words (packages message and value). Conditions: strings of modest size. (2) What is wrong with a path; words (packages message and value). Conditions: strings of modest size. (3) Parameters of templates: is there one with a name among parts? (both sides: slices.ContainsFunc over a function value). Conditions: at most 100000 parts. (4) A segment of a template (package route): a parameter, or words. Conditions: a segment of modest size. -/
import Derived.Test.YtnlloaimplgjnaaGreatDoorBuGrp
import Derived.Test.YtnlloaimplgjnaaGreatDoorTplLaw
import Derived.Test.YtnlloaimplgjnaaGreatDoorMatLawGrp
namespace Go.Proofs.YtnlloaimplgjnaaGreatDoor
open Go.RowKit
set_option linter.unusedVariables false
set_option linter.unusedSimpArgs false
theorem msg_decodedW (s:ByteArray) (w:World) (hs:s.size≤900000):
  Calls Tryz.prog 194 #[.string s] w fun e w'=>e= .returned (decV s.data.toList)∧New w w':=by
 have hd:=msg_decoded s w hs
 cases h:decL s.data.toList with
 | none=>
  rw [decV_none h]at hd ⊢
  clear h
  go_enter Tryz.func194,Tryz.ntmps194
  go_wp2_with (first |(refine hd.mono ?_;clear hd;rintro e w' ⟨rfl,hm⟩;have hm:=hId hm))
  go_ret2
  exact⟨rfl,hm.out⟩
 | some o=>
  rw [decV_some h]at hd ⊢
  clear h
  go_enter Tryz.func194,Tryz.ntmps194
  go_wp2_with (first |(refine hd.mono ?_;clear hd;rintro e w' ⟨rfl,hm⟩;have hm:=hId hm))
  go_ret2
  exact⟨rfl,hm.out⟩
set_option maxRecDepth 100000 in
set_option maxHeartbeats 2000000 in
theorem msg_segment (s:ByteArray) (w:World) (hs:s.size≤300000):
  Calls Tryz.prog 154 #[.string s] w fun e w'=>e= .returned (.string ⟨(segL s.data.toList).toArray⟩)∧New w w':=by
 have hb0:=Blk.new w 109 #[.pointer none,.slice none 0 0]
 have hm0:New w (w.alloc (.cells #[.pointer none,.slice none 0 0] 109)):=(Mod.refl _ _).alloc _
 go_enter Tryz.func154,Tryz.ntmps154
 go_upto_region 2 with(fail)
 generalize w.alloc (.cells #[.pointer none,.slice none 0 0] 109)=w1 at *
 generalize hbe:w.heap.size=B at *
 have HB:=hId (Bw.fresh hb0 (Nat.le_refl _))
 have HM:=hId hm0
 have HBE:=hId hbe
 clear hb0 hm0 hbe
 go_wp2_with fail
 go_loopw [8] (fun i wr=>∃(k:Nat) (o:List UInt8),k≤s.size∧i= .int .i64 k∧Hid (segL (s.data.toList.take k)=o)∧Hid (o.length≤3 * k)∧Hid (Bw 109 B B o wr)∧Hid (New w wr)) (fun i _=>s.size -(intOf i).toNat)
 case atStart=>exact⟨0,[],Nat.zero_le _,rfl,hId rfl,hId (Nat.zero_le _),HB,HM⟩
 case round=>
  clear HB HM
  rename World=>wr
  obtain⟨k,o,hk,rfl,HS,HZ,HB,HM⟩:=hrel
  by_cases hlt:k<s.size
  ·have hkl:k<s.data.toList.length:=hlt
   have HS1:Hid (segL (s.data.toList.take (k+1))=o++segC s[k]):=hId (by rw [segL_take hkl,HS.out];rfl)
   have HZ1:Hid ((o++segC s[k]).length≤3 * (k+1)):=hId (by have:=HZ.out;have:=segC_length s[k];simp;omega)
   have HL:Hid (o.length+1≤1000000):=hId (by have:=HZ.out;omega)
   have HLL:Hid (o.length≤900000):=hId (by have:=HZ.out;omega)
   have hf:=msg_isFree s[k] wr
   have hx:=Tryz.strings_IndexByte ⟨#[33,36,38,39,40,41,42,43,44,59,61,58,64]⟩ (s[k].toNat:Int) wr
   rw [byteBack]at hx
   have hmk:=mark_at s[k]
   rw [show (⟨#[33,36,38,39,40,41,42,43,44,59,61,58,64]⟩:ByteArray).data.toList=markL from rfl]at hx
   have hpc:=msg_percent s[k] wr
   clear HS HZ
   generalize Lib.indexByte markL s[k]=r at hx hmk
   cases h1:freeN s[k].toNat <;> rw [h1]at hf
   ·cases h2:markL.contains s[k] <;> rw [h2]at hmk
    ·have hr:¬ (0:Int)≤r:=by simpa using hmk
     have hq:segC s[k]= [37,upHex (s[k].toNat / 16),upHex (s[k].toNat % 16)]:=by unfold segC openC;rw [h1,h2];rfl
     have HQ:=hId hq
     clear hmk h1 h2 hq
     go_wp2_with (first |(refine hf.mono ?_;clear hf;rintro e w' ⟨rfl,rfl⟩) |(refine hx.mono ?_;clear hx;rintro e w' ⟨rfl,rfl⟩) |(refine hpc.mono ?_;clear hpc;rintro e w2 ⟨rfl,hm2⟩))
     have HB2:=hId (HB.out.new hm2)
     have HM2:Hid (New w w2):=hId (HM.out.trans hm2)
     clear HB HM hm2
     have h3:(⟨#[37,upHex (s[k].toNat / 16),upHex (s[k].toNat % 16)]⟩:ByteArray).size=3:=rfl
     refine(bw_string buT_self B B o _ w2 HB2.out (by have:=HLL.out;omega)).mono ?_
     clear h3
     rintro e w3 ⟨rfl,hb3,hm3,-⟩
     have HM3:=hId (HM2.out.from hm3 (Nat.le_of_eq HBE.out))
     have HB3:=hId hb3
     clear hb3 hm3 HB2 HM2
     go_wp2_with fail
     go_roundw
     case rel=>exact⟨k+1,_,by omega,by go_num,HS1,HZ1,by rw [HQ.out];exact HB3,HM3⟩
     case measure=>simp [intOf];omega
    ·have hr:(0:Int)≤r:=by simpa using hmk
     have hq:segC s[k]= [s[k]]:=by unfold segC openC;rw [h1,h2];rfl
     have HQ:=hId hq
     clear hmk h1 h2 hq
     go_wp2_with (first |(refine hf.mono ?_;clear hf;rintro e w' ⟨rfl,rfl⟩) |(refine hx.mono ?_;clear hx;rintro e w' ⟨rfl,rfl⟩))
     refine(bw_byte buT_self B B _ s[k] _ (by first | rfl |(exact HC.out.symm)) _ HB.out (by have hq:=HL.out;first | omega |(simp;done) |(simp at hq ⊢;omega))).mono ?_
     rintro e wz ⟨rfl,hb1,hm1,-⟩
     have HM1:=hId (HM.out.from hm1 (Nat.le_of_eq HBE.out))
     clear HB HM hm1
     have HB:=hId hb1
     have HM:=HM1
     clear hb1 HM1
     go_wp2_with fail
     go_roundw
     case rel=>exact⟨k+1,_,by omega,by go_num,HS1,HZ1,by rw [HQ.out];exact HB,HM⟩
     case measure=>simp [intOf];omega
   ·have hq:segC s[k]= [s[k]]:=by unfold segC openC;rw [h1];rfl
    have HQ:=hId hq
    clear h1 hq
    go_wp2_with (first |(refine hf.mono ?_;clear hf;rintro e w' ⟨rfl,rfl⟩))
    refine(bw_byte buT_self B B _ s[k] _ (by first | rfl |(exact HC.out.symm)) _ HB.out (by have hq:=HL.out;first | omega |(simp;done) |(simp at hq ⊢;omega))).mono ?_
    rintro e wz ⟨rfl,hb1,hm1,-⟩
    have HM1:=hId (HM.out.from hm1 (Nat.le_of_eq HBE.out))
    clear HB HM hm1
    have HB:=hId hb1
    have HM:=HM1
    clear hb1 HM1
    go_wp2_with fail
    go_roundw
    case rel=>exact⟨k+1,_,by omega,by go_num,HS1,HZ1,by rw [HQ.out];exact HB,HM⟩
    case measure=>simp [intOf];omega
  ·obtain rfl:k=s.size:=by omega
   have HN:Hid (segL s.data.toList=o):=hId (by rw [← HS.out];congr 1;exact(List.take_length).symm)
   go_wp2_with fail
   refine(bw_any B B o _ HB.out).mono ?_
   rintro e w2 ⟨rfl,hm2⟩
   have HM2:=hId (HM.out.from hm2 (Nat.le_of_eq HBE.out))
   clear hm2 HB HM
   go_wp2_with fail
   go_ret
   exact⟨by rw [HN.out];rfl,HM2.out⟩
/-- what is wrong with the path of a request -/
def pathBad (l:List UInt8):Int:=if 1000<l.length then 3 else if Lib.hasPrefix l [47]=false then 3 else if inR 33 126 l=false then 3 else if Lib.containsAny l [63,35]=true then 3 else 0
theorem inR_ascii {l:List UInt8} (h:inR 33 126 l=true):∀(j:Nat) (b:UInt8),l[j]? =some b→b.toNat<128:=by
 intro j b hb
 unfold inR at h
 rw [List.all_eq_true]at h
 have:=h b (List.mem_of_getElem? hb)
 simp only [Bool.and_eq_true,decide_eq_true_eq]at this
 omega
theorem asciiAll {l:List UInt8} (h:l.all (fun b=>decide (b.toNat<128))=true):∀(j:Nat) (b:UInt8),l[j]? =some b→b.toNat<128:=
 fun _ b hb=>of_decide_eq_true (List.all_eq_true.1 h b (List.mem_of_getElem? hb))
set_option maxHeartbeats 2000000 in
theorem msg_pathFault (s:ByteArray) (w:World) (hs:s.size≤900000):
  Calls Tryz.prog 89 #[.string s] w fun e w'=>e= .returned (.int .i64 (pathBad s.data.toList))∧New w w':=by
 have hp:=Tryz.strings_HasPrefix s ⟨#[47]⟩ w
 have hr:=msg_isRange s 33 126 w (by unfold maxLen;omega)
 have hlen:s.data.toList.length=s.size:=rfl
 by_cases h1:1000<s.size
 ·have HP:Hid (pathBad s.data.toList=3):=hId (by unfold pathBad;rw [if_pos (by omega)])
  have h1':(1000:Int)<(s.size:Int):=by omega
  clear hlen
  go_enter Tryz.func89,Tryz.ntmps89
  go_wp2_with fail
  go_ret
  exact⟨ret_int HP.out.symm,Mod.refl _ _⟩
 have hP1:pathBad s.data.toList=if Lib.hasPrefix s.data.toList [47]=false then 3 else if inR 33 126 s.data.toList=false then 3 else if Lib.containsAny s.data.toList [63,35]=true then 3 else 0:=by unfold pathBad;rw [if_neg (by omega)]
 have h1':¬ (1000:Int)<(s.size:Int):=by omega
 clear h1
 rw [show (⟨#[47]⟩:ByteArray).data.toList= [47] from rfl]at hp
 cases h2:Lib.hasPrefix s.data.toList [47] <;> rw [h2]at hp hP1
 ·have HP:Hid (pathBad s.data.toList=3):=hId (by rw [hP1];rfl)
  clear hlen hP1 hr h2
  go_enter Tryz.func89,Tryz.ntmps89
  go_wp2_with (first |(refine hp.mono ?_;clear hp;rintro e w' ⟨rfl,rfl⟩))
  go_ret
  exact⟨ret_int HP.out.symm,Mod.refl _ _⟩
 rw [if_neg (by decide)]at hP1
 cases h3:inR 33 126 s.data.toList <;> rw [h3]at hr hP1
 ·have HP:Hid (pathBad s.data.toList=3):=hId (by rw [hP1];rfl)
  clear hlen hP1 h2 h3
  go_enter Tryz.func89,Tryz.ntmps89
  go_wp2_with (first |(refine hp.mono ?_;clear hp;rintro e w' ⟨rfl,rfl⟩) |(refine hr.mono ?_;clear hr;rintro e w' ⟨rfl,rfl⟩))
  go_ret
  exact⟨ret_int HP.out.symm,Mod.refl _ _⟩
 rw [if_neg (by decide)]at hP1
 have hc:=Tryz.strings_ContainsAny_laid s ⟨#[63,35]⟩ w (by omega) (by decide) (inR_ascii h3) (asciiAll (by decide))
 rw [show (⟨#[63,35]⟩:ByteArray).data.toList= [63,35] from rfl]at hc
 generalize Lib.containsAny s.data.toList [63,35]=q at *
 cases q
 ·have HP:Hid (pathBad s.data.toList=0):=hId (by rw [hP1];rfl)
  clear hlen hP1 h2 h3
  go_enter Tryz.func89,Tryz.ntmps89
  go_wp2_with (first |(refine hp.mono ?_;clear hp;rintro e w' ⟨rfl,rfl⟩) |(refine hr.mono ?_;clear hr;rintro e w' ⟨rfl,rfl⟩) |(refine hc.mono ?_;clear hc;rintro e w2 ⟨rfl,hm2⟩;have hm2:=hId hm2))
  go_ret
  exact⟨ret_int HP.out.symm,Mod.of_below hm2.out⟩
 ·have HP:Hid (pathBad s.data.toList=3):=hId (by rw [hP1];rfl)
  clear hlen hP1 h2 h3
  go_enter Tryz.func89,Tryz.ntmps89
  go_wp2_with (first |(refine hp.mono ?_;clear hp;rintro e w' ⟨rfl,rfl⟩) |(refine hr.mono ?_;clear hr;rintro e w' ⟨rfl,rfl⟩) |(refine hc.mono ?_;clear hc;rintro e w2 ⟨rfl,hm2⟩;have hm2:=hId hm2))
  go_ret
  exact⟨ret_int HP.out.symm,Mod.of_below hm2.out⟩
theorem reserved_at {w:World} {g:Nat} (h:Blk w g 9 (reserved.map Value.string).toArray) (j:Nat) (hj:j<reserved.length):w.cell? ⟨g,0+j,none⟩=some (.string (reserved.getD j ByteArray.empty)):=by
 rw [Nat.zero_add,h.cell]
 match j,hj with
 | 0,_=>rfl
 | 1,_=>rfl
 | 2,_=>rfl
 | 3,_=>rfl
 | 4,_=>rfl
 | 5,_=>rfl
 | n+6,hj=>exact absurd hj (by simp [reserved])
set_option maxHeartbeats 1000000 in
theorem val_isReserved (s:ByteArray) (w:World):
  Calls Tryz.prog 239 #[.string s] w fun e w'=>e= .returned (.bool (Lib.containsS reserved s))∧New w w':=by
 have hb:=Blk.new w 9 (reserved.map Value.string).toArray
 have hct:=Tryz.slices_Contains_string w.heap.size 0 6 6 reserved s (w.alloc (.cells (reserved.map Value.string).toArray 9)) (by decide) (by decide) (fun j hj=>reserved_at hb j hj)
 rw [show reserved.take 6=reserved from rfl]at hct
 have hm:New w (w.alloc (.cells (reserved.map Value.string).toArray 9)):=(Mod.refl _ _).alloc _
 rw [show (reserved.map Value.string).toArray= #[.string ⟨#[110,117,108,108]⟩,.string ⟨#[116,114,117,101]⟩,.string ⟨#[102,97,108,115,101]⟩,.string ⟨#[105,110]⟩,.string ⟨#[101,97,99,104]⟩,.string ⟨#[119,104,101,114,101]⟩] from rfl]at hct hm
 have HM:=hId hm
 generalize Lib.containsS reserved s=q at *
 clear hb hm
 go_enter Tryz.func239,Tryz.ntmps239
 go_wp2_with (first |(refine hct.mono ?_;clear hct;rintro e w' ⟨rfl,rfl⟩))
 go_ret
 exact⟨rfl,HM.out⟩
theorem mkList (s:ByteArray):(⟨s.data.toList.toArray⟩:ByteArray)=s:=by cases s;simp
set_option maxHeartbeats 1000000 in
theorem val_isWord (s:ByteArray) (w:World) (hs:s.size≤maxLen):
  Calls Tryz.prog 193 #[.string s] w fun e w'=>e= .returned (.bool (isWord s.data.toList))∧New w w':=by
 have hr:=val_isRow s w hs
 have hv:=val_isReserved s w
 have HW:Hid (isWord s.data.toList=((plainRow s.data.toList&&decide (s.size≤40))&& !Lib.containsS reserved s)):=hId (by unfold isWord;rw [mkList];rfl)
 generalize (plainRow s.data.toList&&decide (s.size≤40))=p at *
 generalize Lib.containsS reserved s=q at *
 generalize isWord s.data.toList=r at *
 cases p
 ·go_enter Tryz.func193,Tryz.ntmps193
  go_wp2_with (first |(refine hr.mono ?_;clear hr;rintro e w' ⟨rfl,rfl⟩))
  go_ret
  exact⟨ret_bool HW.out.symm,Mod.refl _ _⟩
 ·go_enter Tryz.func193,Tryz.ntmps193
  go_wp2_with (first |(refine hr.mono ?_;clear hr;rintro e w' ⟨rfl,rfl⟩) |(refine hv.mono ?_;clear hv;rintro e w2 ⟨rfl,hm2⟩;have hm2:=hId hm2))
  go_ret
  exact⟨ret_bool HW.out.symm,hm2.out⟩
def PartD.val (p:PartD):Value:=.agg #[.int .i64 p.kind,.string p.name]
abbrev PSl (w:World) (A:Option Addr) (n:Nat) (ps:List PartD):Prop:=Sl w 78 2 PartD.enc A n ps
abbrev isPar (s:ByteArray) (p:PartD):Bool:=decide (p.kind≠1)&&decide (p.name=s)
theorem str_beq (a b:ByteArray):(a.toList == b.toList)=decide (a=b):=by
 rw [Bool.eq_iff_iff,ByteArray.toList_eq,ByteArray.toList_eq]
 simp only [beq_iff_eq,decide_eq_true_eq]
 exact⟨fun h=>ByteArray.ext (Array.toList_inj.mp h),fun h=>by rw [h]⟩
/-- the place of the first one among the first n, or -1 -/
def firstP (b:Nat→Bool):Nat→Int
 | 0=>-1
 | n+1=>if firstP b n= -1 then(if b n then n else -1) else firstP b n
theorem firstP_none {b:Nat→Bool} {n:Nat} (h:∀ i,i<n→b i=false):firstP b n= -1:=by
 induction n with
 | zero=>rfl
 | succ n ih=>rw [firstP,ih (fun i hi=>h i (by omega)),h n (by omega)];simp
theorem firstP_hit {b:Nat→Bool} {n k:Nat} (hk:k<n) (ht:b k=true) (h:∀ i,i<k→b i=false):firstP b n=k:=by
 induction n with
 | zero=>omega
 | succ n ih=>
  rw [firstP]
  by_cases e:k=n
  ·subst e;rw [firstP_none h,ht];simp
  ·rw [ih (by omega)];rw [if_neg (by omega)]
theorem firstP_any (b:Nat→Bool):∀ n,decide (0≤firstP b n)=(List.range n).any b
 | 0=>rfl
 | n+1=>by
  have ih:=firstP_any b n
  rw [List.range_succ,List.any_append,←ih,firstP]
  split
  ·rename_i h
   rw [h]
   cases hb:b n <;> simp [hb]
  ·rename_i h
   have:0≤firstP b n:=by
    have hge:∀ m,-1≤firstP b m:=by
     intro m
     induction m with
     | zero=>exact Int.le_refl _
     | succ m ih2=>unfold firstP;split <;> (try split) <;> omega
    have:=hge n
    omega
   simp [this]
theorem anyRange {α:Type} (p:α→Bool) (l:List α):(List.range l.length).any (fun i=>(l[i]?).any p)=l.any p:=by
 rw [Bool.eq_iff_iff,List.any_eq_true,List.any_eq_true]
 constructor
 ·rintro⟨i,hi,h⟩
  have hi:=List.mem_range.1 hi
  rw [List.getElem?_eq_getElem hi]at h
  exact⟨l[i],List.getElem_mem hi,h⟩
 ·rintro⟨x,hx,h⟩
  obtain⟨i,hi,rfl⟩:=List.getElem_of_mem hx
  exact⟨i,List.mem_range.2 hi,by rw [List.getElem?_eq_getElem hi];exact h⟩
/-- a closure that asks whether a part is a parameter with the name -/
def ParPred (w:World) (F:Nat) (cp:Value) (s:ByteArray):Prop:=
 ∀(p:PartD) wr,New w wr→Calls Tryz.prog F #[p.val,cp] wr fun e w'=>e= .returned (.bool (isPar s p))∧New wr w'
set_option maxHeartbeats 1000000 in
theorem indexFunc_part (F:Nat) (cp:Value) (eg:∀ args w,(callFunc F args).run Tryz.prog w= .ok (.enter F args) w) (w:World) (A:Option Addr) (n c:Nat) (ps:List PartD) (s:ByteArray) (hs:PSl w A n ps) (hF:ParPred w F cp s) (hn:n≤100000):
  Calls Tryz.prog 142 #[.slice A n c,.func (.func F) #[] #[cp]] w fun e w'=>e= .returned (.int .i64 (firstP (fun i=>(ps[i]?).any (isPar s)) n))∧New w w':=by
 have HS:=hId hs
 have HF:=hId hF
 have HL:=hId hs.1
 obtain⟨b,hb⟩:∃ b:Nat→Bool,b=(fun i=>(ps[i]?).any (isPar s)):=⟨_,rfl⟩
 rw [← hb]
 have HB:=hId hb
 clear hs hF hb
 go_enter Tryz.func142,Tryz.ntmps142
 go_wp2_with fail
 go_loopw [8] (fun i wr=>∃ k:Nat,k≤n∧i= .int .i64 k∧Hid (New w wr)∧Hid (∀ j,j<k→b j=false)) (fun i _=>n -(intOf i).toNat)
 case atStart=>exact⟨0,Nat.zero_le _,rfl,hId (Mod.refl _ _),hId (fun j hj=>absurd hj (by omega))⟩
 case round=>
  rename World=>wr
  obtain⟨k,hk,rfl,HM,HA⟩:=hrel
  by_cases hlt:k<n
  ·have hkx:k<ps.length:=by have:=HL.out;omega
   obtain⟨g,o,hA,htb,hc0⟩:=(HS.out.new HM.out).2 (by omega)
   have hgl:=htb.lt
   have hc:=fun q (hq:q<2)=>hc0 k hkx q hq
   have hbk:b k=isPar s ps[k]:=by rw [HB.out];simp [hkx]
   have HBK:=hId hbk
   clear hc0 htb hbk
   have hcall:=HF.out ps[k] wr HM.out
   generalize ps[k]=y at *
   subst hA
   have hb1:(0:Int)≤k:=by omega
   have hb2:(k:Int)<n:=by omega
   obtain⟨yk,yn⟩:=y
   have b0:=hc 0 (by omega)
   have b1:=hc 1 (by omega)
   simp only [PartD.enc,Nat.add_zero,Nat.zero_add]at b0 b1
   clear hc
   simp only [PartD.val]at hcall
   generalize isPar s ⟨yk,yn⟩=r at *
   go_wp2_with fail
   refine hcall.mono ?_
   clear hcall
   rintro e w5 ⟨rfl,m5⟩
   have HM5:=hId (HM.out.trans m5)
   clear m5
   cases r with
   | true=>
    go_wp2_with fail
    go_ret
    exact⟨ret_int (firstP_hit hlt HBK.out HA.out).symm,HM5.out⟩
   | false=>
    go_wp2_with fail
    go_roundw
    case rel=>exact⟨k+1,by omega,by go_num,HM5,hId (fun j hj=>by
     by_cases e:j=k
     ·subst e;exact HBK.out
     ·exact HA.out j (by omega))⟩
    case measure=>simp [intOf];omega
  ·obtain rfl:k=n:=by omega
   go_wp2_with fail
   go_ret
   exact⟨ret_int (firstP_none HA.out).symm,HM.out⟩
set_option maxHeartbeats 1000000 in
theorem containsFunc_part (F:Nat) (cp:Value) (eg:∀ args w,(callFunc F args).run Tryz.prog w= .ok (.enter F args) w) (w:World) (A:Option Addr) (n c:Nat) (ps:List PartD) (s:ByteArray) (hs:PSl w A n ps) (hF:ParPred w F cp s) (hn:n≤100000):
  Calls Tryz.prog 91 #[.slice A n c,.func (.func F) #[] #[cp]] w fun e w'=>e= .returned (.bool (hasP ps s))∧New w w':=by
 have hif:=indexFunc_part F cp eg w A n c ps s hs hF hn
 have hany:decide (0≤firstP (fun i=>(ps[i]?).any (isPar s)) n)=hasP ps s:=by
  rw [firstP_any,←hs.1]
  exact anyRange _ _
 have HA:=hId hany
 clear hany hs hF eg
 generalize firstP (fun i=>(ps[i]?).any (isPar s)) n=r at *
 generalize hasP ps s=q at *
 go_enter Tryz.func91,Tryz.ntmps91
 go_wp2_with (first |(refine hif.mono ?_;clear hif;rintro e w' ⟨rfl,hm⟩;have hm:=hId hm))
 go_ret
 exact⟨ret_bool HA.out,hm.out⟩
theorem Blk.new2 {w w':World} {g:Nat} {t:TypeId} {cs:Array Value} (h:Blk w g t cs) (hm:New w w'):Blk w' g t cs:=h.mod hm (fun e=>e)
set_option maxHeartbeats 1000000 in
theorem route_par (p:PartD) (g:Nat) (s:ByteArray) (w:World) (hg:Blk w g 9 #[.string s]):
  Calls Tryz.prog 92 #[p.val,.pointer (some ⟨g,0,none⟩)] w fun e w'=>e= .returned (.bool (isPar s p))∧New w w':=by
 obtain⟨pk,pn⟩:=p
 have hb:=hg.new2 ((Mod.refl (fun _=>False) w).alloc (.cells #[.int .i64 pk,.string pn] 78))
 have hlt:=hb.lt
 have hgl:=hg.lt
 have hc:=hb.cell 0
 simp only [lqt,lqz]at hc
 have hbq:=str_beq pn s
 have HM:Hid (New w (w.alloc (.cells #[.int .i64 pk,.string pn] 78))):=hId ((Mod.refl _ _).alloc _)
 unfold PartD.val isPar
 simp only
 clear hb hg
 by_cases hk:pk=1
 ·subst hk
  go_enter Tryz.func92,Tryz.ntmps92
  go_wp2_with fail
  go_ret
  exact⟨rfl,HM.out⟩
 ·have hk1:((pk:Int) != 1)=true:=by simpa using hk
  generalize decide (pn=s)=r at *
  rw [decide_eq_true hk]
  go_enter Tryz.func92,Tryz.ntmps92
  go_wp2_with fail
  all_goals go_ret
  all_goals exact⟨ret_bool (by simp_all),HM.out⟩
theorem enters_rpar (args:Array Value) (w:World):(callFunc 92 args).run Tryz.prog w= .ok (.enter 92 args) w:=by
 go_simp
theorem enters_gpar (args:Array Value) (w:World):(callFunc 179 args).run Tryz.prog w= .ok (.enter 179 args) w:=by
 go_simp
set_option maxHeartbeats 1000000 in
theorem route_hasParam (A:Option Addr) (n c:Nat) (ps:List PartD) (s:ByteArray) (w:World) (hs:PSl w A n ps) (hn:n≤100000):
  Calls Tryz.prog 33 #[.slice A n c,.string s] w fun e w'=>e= .returned (.bool (hasP ps s))∧New w w':=by
 have hm:New w (w.alloc (.cells #[.string s] 9)):=(Mod.refl _ _).alloc _
 have hbk:=Blk.new w 9 #[.string s]
 have hcf:=containsFunc_part 92 (.pointer (some ⟨w.heap.size,0,none⟩)) enters_rpar (w.alloc (.cells #[.string s] 9)) A n c ps s (hs.new hm) (fun p wr hw=>route_par p w.heap.size s wr (hbk.new2 hw)) hn
 have HM:=hId hm
 clear hs hm hbk
 go_enter Tryz.func33,Tryz.ntmps33
 go_wp2_with (first |(refine hcf.mono ?_;clear hcf;rintro e w' ⟨rfl,hm⟩;have hm:=hId hm))
 go_ret
 exact⟨rfl,HM.out.trans hm.out⟩
set_option maxHeartbeats 1000000 in
theorem ref_par (p:PartD) (g:Nat) (s:ByteArray) (w:World) (hg:Blk w g 9 #[.string s]):
  Calls Tryz.prog 179 #[p.val,.pointer (some ⟨g,0,none⟩)] w fun e w'=>e= .returned (.bool (isPar s p))∧New w w':=by
 obtain⟨pk,pn⟩:=p
 have hb:=hg.new2 ((Mod.refl (fun _=>False) w).alloc (.cells #[.int .i64 pk,.string pn] 78))
 have hlt:=hb.lt
 have hgl:=hg.lt
 have hc:=hb.cell 0
 simp only [lqt,lqz]at hc
 have hbq:=str_beq pn s
 have HM:Hid (New w (w.alloc (.cells #[.int .i64 pk,.string pn] 78))):=hId ((Mod.refl _ _).alloc _)
 unfold PartD.val isPar
 simp only
 clear hb hg
 by_cases hk:pk=1
 ·subst hk
  go_enter Tryz.func179,Tryz.ntmps179
  go_wp2_with fail
  go_ret
  exact⟨rfl,HM.out⟩
 ·have hk1:((pk:Int) != 1)=true:=by simpa using hk
  generalize decide (pn=s)=r at *
  rw [decide_eq_true hk]
  go_enter Tryz.func179,Tryz.ntmps179
  go_wp2_with fail
  all_goals go_ret
  all_goals exact⟨ret_bool (by simp_all),HM.out⟩
set_option maxHeartbeats 1000000 in
theorem ref_hasParam (A:Option Addr) (n c:Nat) (ps:List PartD) (s:ByteArray) (w:World) (hs:PSl w A n ps) (hn:n≤100000):
  Calls Tryz.prog 105 #[.slice A n c,.string s] w fun e w'=>e= .returned (.bool (hasP ps s))∧New w w':=by
 have hm:New w (w.alloc (.cells #[.string s] 9)):=(Mod.refl _ _).alloc _
 have hbk:=Blk.new w 9 #[.string s]
 have hcf:=containsFunc_part 179 (.pointer (some ⟨w.heap.size,0,none⟩)) enters_gpar (w.alloc (.cells #[.string s] 9)) A n c ps s (hs.new hm) (fun p wr hw=>ref_par p w.heap.size s wr (hbk.new2 hw)) hn
 have HM:=hId hm
 clear hs hm hbk
 go_enter Tryz.func105,Tryz.ntmps105
 go_wp2_with (first |(refine hcf.mono ?_;clear hcf;rintro e w' ⟨rfl,hm⟩;have hm:=hId hm))
 go_ret
 exact⟨rfl,HM.out.trans hm.out⟩
/-- what a reading of a segment hands back -/
def RPt (q:Int×PartD) (w:World) (e:Ending) (w':World):Prop:=e= .returned (.tuple #[q.2.val,.int .i64 q.1])∧New w w'
theorem dots_eq (s:ByteArray):dotsL s.data.toList=(decide (s=⟨#[46]⟩)||decide (s=⟨#[46,46]⟩)):=by
 unfold dotsL
 congr 1
 ·rw [Bool.eq_iff_iff,decide_eq_true_eq,decide_eq_true_eq]
  exact⟨fun h=>ByteArray.ext (Array.toList_inj.mp h),fun h=>by rw [h]⟩
 ·rw [Bool.eq_iff_iff,decide_eq_true_eq,decide_eq_true_eq]
  exact⟨fun h=>ByteArray.ext (Array.toList_inj.mp h),fun h=>by rw [h]⟩
theorem beq_const (s:ByteArray) (l:List UInt8):(s.toList == l)=decide (s.data.toList=l):=by
 rw [Bool.eq_iff_iff,ByteArray.toList_eq];simp
set_option maxHeartbeats 1000000 in
theorem route_isDots (s:ByteArray) (w:World):Calls Tryz.prog 195 #[.string s] w fun e w'=>e= .returned (.bool (dotsL s.data.toList))∧w=w':=by
 have b1:=beq_const s [46]
 have b2:=beq_const s [46,46]
 have HD:Hid (dotsL s.data.toList=(decide (s.data.toList= [46])||decide (s.data.toList= [46,46]))):=hId rfl
 generalize decide (s.data.toList= [46])=p at *
 generalize decide (s.data.toList= [46,46])=q at *
 cases p
 ·go_enter Tryz.func195,Tryz.ntmps195
  go_wp2_with fail
  all_goals go_ret
  all_goals exact⟨ret_bool (by rw [HD.out];simp_all),rfl⟩
 ·go_enter Tryz.func195,Tryz.ntmps195
  go_wp2_with fail
  all_goals go_ret
  all_goals exact⟨ret_bool (by rw [HD.out];simp_all),rfl⟩
theorem suffix_cons (a c:UInt8) (y:List UInt8) (h:a≠c):Lib.hasSuffix (a::y) [c]=Lib.hasSuffix y [c]:=by
 unfold Lib.hasSuffix
 rw [Bool.eq_iff_iff,List.isSuffixOf_iff_suffix,List.isSuffixOf_iff_suffix,List.suffix_cons_iff]
 constructor
 ·rintro(h1 | h1)
  ·injection h1 with h2 h3
   exact absurd h2.symm h
  ·exact h1
 ·exact .inr
theorem param_list {s:ByteArray} (h1:Lib.hasPrefix s.data.toList [123]=true) (h2:Lib.hasSuffix s.data.toList [125]=true):
  2≤s.size∧(s.extract 1 (s.size -1)).data.toList=Lib.trimSuffix (s.data.toList.drop 1) [125]:=by
 have hsz:s.data.toList.length=s.size:=rfl
 rw [extract_data]
 generalize s.data.toList=l at *
 match l,h1,h2 with
 | [],h1,_=>exact absurd h1 (by decide)
 | a::y,h1,h2=>
  have ha:a=123:=by
   simp only [Lib.hasPrefix,List.isPrefixOf,Bool.and_true,beq_iff_eq]at h1
   exact h1.symm
  subst ha
  rw [suffix_cons 123 125 y (by decide)]at h2
  have hy:1≤y.length:=by
   cases y with
   | nil=>exact absurd h2 (by decide)
   | cons b z=>simp
  rw [List.length_cons]at hsz
  refine⟨by omega,?_⟩
  unfold Lib.trimSuffix
  rw [List.drop_succ_cons,List.drop_zero,if_pos h2]
  congr 1
  simp only [List.length_cons,List.length_nil]
  omega
set_option maxRecDepth 100000 in
set_option maxHeartbeats 2000000 in
theorem route_paramOf (s:ByteArray) (A:Option Addr) (n c:Nat) (ps:List PartD) (last:Bool) (w:World) (hs:s.size≤900000) (h1:Lib.hasPrefix s.data.toList [123]=true) (hps:PSl w A n ps) (hn:n≤100000):
  Calls Tryz.prog 129 #[.string s,.slice A n c,.bool last] w (RPt (partOf s ps last) w):=by
 have hP:partOf s ps last=if !Lib.hasSuffix s.data.toList [125] then(9,⟨0,⟨#[]⟩⟩) else
   if !isWord (Lib.trimSuffix (Lib.trimSuffix (s.data.toList.drop 1) [125]) [42]) then(5,⟨0,⟨#[]⟩⟩)
   else if hasP ps ⟨(Lib.trimSuffix (Lib.trimSuffix (s.data.toList.drop 1) [125]) [42]).toArray⟩ then(6,⟨0,⟨#[]⟩⟩)
   else if Lib.hasSuffix (Lib.trimSuffix (s.data.toList.drop 1) [125]) [42]&& !last then(7,⟨0,⟨#[]⟩⟩)
   else(0,⟨if Lib.hasSuffix (Lib.trimSuffix (s.data.toList.drop 1) [125]) [42] then 3 else 2,⟨(Lib.trimSuffix (Lib.trimSuffix (s.data.toList.drop 1) [125]) [42]).toArray⟩⟩):=by
  unfold partOf;rw [if_pos h1]
 have hsf:=fun W=>Tryz.strings_HasSuffix s ⟨#[125]⟩ W (by omega)
 rw [show (⟨#[125]⟩:ByteArray).data.toList= [125] from rfl]at hsf
 have hb0:=Blk.new w 78 #[.int .i64 0,.string ⟨#[]⟩]
 have hm0:New w (w.alloc (.cells #[.int .i64 0,.string ⟨#[]⟩] 78)):=(Mod.refl _ _).alloc _
 go_enter Tryz.func129,Tryz.ntmps129
 go_upto_region 1 with(fail)
 generalize w.alloc (.cells #[.int .i64 0,.string ⟨#[]⟩] 78)=w1 at *
 generalize hre:w.heap.size=r at *
 have HR:=hId hb0
 have HM:Hid (New w w1):=hId hm0
 have HRE:=hId hre
 have hsf:=hsf w1
 clear hb0 hm0 hre
 cases h2:Lib.hasSuffix s.data.toList [125] <;> rw [h2]at hsf hP
 ·have HQ:Hid (partOf s ps last=(9,⟨0,⟨#[]⟩⟩)):=hId hP
  clear hP h1 h2
  go_upto_region 2 with(first |(refine hsf.mono ?_;clear hsf;rintro e w' ⟨rfl,rfl⟩))
  have d0:=HR.out.cell 0
  have d1:=HR.out.cell 1
  have f0:=HR.out.frozen 0
  have f1:=HR.out.frozen 1
  have dl:=HR.out.lt
  simp only [lqt,lqz,lqs]at d0 d1
  go_wp2_with fail
  refine bodyPost_ret (v:=.tuple #[PartD.val ⟨0,⟨#[]⟩⟩,.int .i64 9]) (by simp [results,Tryz.results129,go_sem,d0,d1,f0,f1,PartD.val]) rfl ⟨by rw [HQ.out] <;> rfl,?_⟩
  exact(HM.out.setCell (p:=⟨r,0,none⟩) (.inr (Nat.le_of_eq HRE.out)) _).setCell (p:=⟨r,1,none⟩) (.inr (Nat.le_of_eq HRE.out)) _
 ·obtain⟨hs2,hyl⟩:=param_list h1 h2
  rw [if_neg (by decide)]at hP
  clear h1 h2
  have hcs:=fun W=>Tryz.strings_CutSuffix (s.extract 1 (s.size -1)) ⟨#[42]⟩ W (by simp only [ByteArray.size_extract];omega)
  rw [hyl,show(⟨#[42]⟩:ByteArray).data.toList= [42] from rfl]at hcs
  have hyl2:(Lib.trimSuffix (s.data.toList.drop 1) [125]).length≤900000:=by
   rw [← hyl,extract_data]
   have:s.data.toList.length=s.size:=rfl
   simp only [List.length_take,List.length_drop]
   omega
  generalize Lib.trimSuffix (s.data.toList.drop 1) [125]=y at *
  have hnl:(Lib.trimSuffix y [42]).length≤y.length:=by
   unfold Lib.trimSuffix
   split
   ·simp
   ·exact Nat.le_refl _
  generalize Lib.trimSuffix y [42]=nm at *
  generalize Lib.hasSuffix y [42]=rst at *
  have hiw:=fun W=>val_isWord ⟨nm.toArray⟩ W (by unfold maxLen;show(nm.toArray).size≤_;simp;omega)
  rw [show (⟨nm.toArray⟩:ByteArray).data.toList=nm from rfl]at hiw
  have hhp:=fun W (h:New w W)=>route_hasParam A n c ps ⟨nm.toArray⟩ W (hps.new h) hn
  have n1:((s.size:Int) -1).toNat=s.size -1:=by omega
  have n2:(1:Int)≤(s.size:Int) -1:=by omega
  have HHP:=hId hhp
  have HIW:=hId hiw
  have hcs:=hcs w1
  clear hhp hiw hyl hnl hyl2
  generalize hN:(⟨nm.toArray⟩:ByteArray)=N at *
  have hiw:=HIW.out w1
  generalize isWord nm=q1 at *
  generalize hasP ps N=q2 at *
  cases q1
  ·have HQ:Hid (partOf s ps last=(5,⟨0,⟨#[]⟩⟩)):=hId hP
   clear hP
   go_upto_region 5 with(first |(refine hsf.mono ?_;clear hsf;rintro e w' ⟨rfl,rfl⟩) |(refine hcs.mono ?_;clear hcs;rintro e w' ⟨rfl,rfl⟩) |(refine hiw.mono ?_;clear hiw;rintro e w2 ⟨rfl,hm2⟩))
   have HR1:=hId (HR.out.new2 hm2)
   have HM1:=hId (HM.out.trans hm2)
   clear HR HM
   have HR:=HR1
   have HM:=HM1
   clear HR1 HM1
   clear hm2
   have d0:=HR.out.cell 0
   have d1:=HR.out.cell 1
   have f0:=HR.out.frozen 0
   have f1:=HR.out.frozen 1
   have dl:=HR.out.lt
   simp only [lqt,lqz,lqs]at d0 d1
   go_wp2_with fail
   refine bodyPost_ret (v:=.tuple #[PartD.val ⟨0,⟨#[]⟩⟩,.int .i64 5]) (by simp [results,Tryz.results129,go_sem,d0,d1,f0,f1,PartD.val]) rfl ⟨by rw [HQ.out] <;> rfl,?_⟩
   exact(HM.out.setCell (p:=⟨r,0,none⟩) (.inr (Nat.le_of_eq HRE.out)) _).setCell (p:=⟨r,1,none⟩) (.inr (Nat.le_of_eq HRE.out)) _
  ·rw [if_neg (by decide)]at hP
   cases q2
   ·rw [if_neg (by decide)]at hP
    by_cases hlst:rst=true∧last=false
    ·obtain⟨rfl,rfl⟩:=hlst
     have HQ:Hid (partOf s ps false=(7,⟨0,⟨#[]⟩⟩)):=hId hP
     clear hP
     go_upto_region 6 with(first |(refine hsf.mono ?_;clear hsf;rintro e w' ⟨rfl,rfl⟩) |(refine hcs.mono ?_;clear hcs;rintro e w' ⟨rfl,rfl⟩) |(refine hiw.mono ?_;clear hiw;rintro e w2 ⟨rfl,hm2⟩))
     have HR1:=hId (HR.out.new2 hm2)
     have HM1:=hId (HM.out.trans hm2)
     clear HR HM
     have HR:=HR1
     have HM:=HM1
     clear HR1 HM1
     clear hm2
     have hhp:=HHP.out w2 HM.out
     go_upto_region 9 with(first |(refine hhp.mono ?_;clear hhp;rintro e w3 ⟨rfl,hm3⟩))
     have HR1:=hId (HR.out.new2 hm3)
     have HM1:=hId (HM.out.trans hm3)
     clear HR HM
     have HR:=HR1
     have HM:=HM1
     clear HR1 HM1
     clear hm3
     have d0:=HR.out.cell 0
     have d1:=HR.out.cell 1
     have f0:=HR.out.frozen 0
     have f1:=HR.out.frozen 1
     have dl:=HR.out.lt
     simp only [lqt,lqz,lqs]at d0 d1
     go_wp2_with fail
     refine bodyPost_ret (v:=.tuple #[PartD.val ⟨0,⟨#[]⟩⟩,.int .i64 7]) (by simp [results,Tryz.results129,go_sem,d0,d1,f0,f1,PartD.val]) rfl ⟨by rw [HQ.out] <;> rfl,?_⟩
     exact(HM.out.setCell (p:=⟨r,0,none⟩) (.inr (Nat.le_of_eq HRE.out)) _).setCell (p:=⟨r,1,none⟩) (.inr (Nat.le_of_eq HRE.out)) _
    ·have hx:(rst&& !last)=false:=by cases rst <;> cases last <;> simp_all
     rw [hx,if_neg (by decide)]at hP
     clear hlst
     cases rst
     ·have HQ:Hid (partOf s ps last=(0,⟨2,N⟩)):=hId hP
      clear hP hx
      go_upto_region 6 with(first |(refine hsf.mono ?_;clear hsf;rintro e w' ⟨rfl,rfl⟩) |(refine hcs.mono ?_;clear hcs;rintro e w' ⟨rfl,rfl⟩) |(refine hiw.mono ?_;clear hiw;rintro e w2 ⟨rfl,hm2⟩))
      have HR1:=hId (HR.out.new2 hm2)
      have HM1:=hId (HM.out.trans hm2)
      clear HR HM
      have HR:=HR1
      have HM:=HM1
      clear HR1 HM1
      clear hm2
      have hhp:=HHP.out w2 HM.out
      go_upto_region 12 with(first |(refine hhp.mono ?_;clear hhp;rintro e w3 ⟨rfl,hm3⟩))
      have HR1:=hId (HR.out.new2 hm3)
      have HM1:=hId (HM.out.trans hm3)
      clear HR HM
      have HR:=HR1
      have HM:=HM1
      clear HR1 HM1
      clear hm3
      have d0:=HR.out.cell 0
      have d1:=HR.out.cell 1
      have f0:=HR.out.frozen 0
      have f1:=HR.out.frozen 1
      have dl:=HR.out.lt
      simp only [lqt,lqz,lqs]at d0 d1
      go_wp2_with fail
      refine bodyPost_ret (v:=.tuple #[PartD.val ⟨2,N⟩,.int .i64 0]) (by simp [results,Tryz.results129,go_sem,d0,d1,f0,f1,PartD.val]) rfl ⟨by rw [HQ.out] <;> rfl,?_⟩
      exact(HM.out.setCell (p:=⟨r,0,none⟩) (.inr (Nat.le_of_eq HRE.out)) _).setCell (p:=⟨r,1,none⟩) (.inr (Nat.le_of_eq HRE.out)) _
     ·have hl:last=true:=by cases last <;> simp_all
      subst hl
      have HQ:Hid (partOf s ps true=(0,⟨3,N⟩)):=hId hP
      clear hP hx
      go_upto_region 6 with(first |(refine hsf.mono ?_;clear hsf;rintro e w' ⟨rfl,rfl⟩) |(refine hcs.mono ?_;clear hcs;rintro e w' ⟨rfl,rfl⟩) |(refine hiw.mono ?_;clear hiw;rintro e w2 ⟨rfl,hm2⟩))
      have HR1:=hId (HR.out.new2 hm2)
      have HM1:=hId (HM.out.trans hm2)
      clear HR HM
      have HR:=HR1
      have HM:=HM1
      clear HR1 HM1
      clear hm2
      have hhp:=HHP.out w2 HM.out
      go_upto_region 11 with(first |(refine hhp.mono ?_;clear hhp;rintro e w3 ⟨rfl,hm3⟩))
      have HR1:=hId (HR.out.new2 hm3)
      have HM1:=hId (HM.out.trans hm3)
      clear HR HM
      have HR:=HR1
      have HM:=HM1
      clear HR1 HM1
      clear hm3
      have d0:=HR.out.cell 0
      have d1:=HR.out.cell 1
      have f0:=HR.out.frozen 0
      have f1:=HR.out.frozen 1
      have dl:=HR.out.lt
      simp only [lqt,lqz,lqs]at d0 d1
      go_wp2_with fail
      refine bodyPost_ret (v:=.tuple #[PartD.val ⟨3,N⟩,.int .i64 0]) (by simp [results,Tryz.results129,go_sem,d0,d1,f0,f1,PartD.val]) rfl ⟨by rw [HQ.out] <;> rfl,?_⟩
      exact(HM.out.setCell (p:=⟨r,0,none⟩) (.inr (Nat.le_of_eq HRE.out)) _).setCell (p:=⟨r,1,none⟩) (.inr (Nat.le_of_eq HRE.out)) _
   ·have HQ:Hid (partOf s ps last=(6,⟨0,⟨#[]⟩⟩)):=hId hP
    clear hP
    go_upto_region 6 with(first |(refine hsf.mono ?_;clear hsf;rintro e w' ⟨rfl,rfl⟩) |(refine hcs.mono ?_;clear hcs;rintro e w' ⟨rfl,rfl⟩) |(refine hiw.mono ?_;clear hiw;rintro e w2 ⟨rfl,hm2⟩))
    have HR1:=hId (HR.out.new2 hm2)
    have HM1:=hId (HM.out.trans hm2)
    clear HR HM
    have HR:=HR1
    have HM:=HM1
    clear HR1 HM1
    clear hm2
    have hhp:=HHP.out w2 HM.out
    go_upto_region 7 with(first |(refine hhp.mono ?_;clear hhp;rintro e w3 ⟨rfl,hm3⟩))
    have HR1:=hId (HR.out.new2 hm3)
    have HM1:=hId (HM.out.trans hm3)
    clear HR HM
    have HR:=HR1
    have HM:=HM1
    clear HR1 HM1
    clear hm3
    have d0:=HR.out.cell 0
    have d1:=HR.out.cell 1
    have f0:=HR.out.frozen 0
    have f1:=HR.out.frozen 1
    have dl:=HR.out.lt
    simp only [lqt,lqz,lqs]at d0 d1
    go_wp2_with fail
    refine bodyPost_ret (v:=.tuple #[PartD.val ⟨0,⟨#[]⟩⟩,.int .i64 6]) (by simp [results,Tryz.results129,go_sem,d0,d1,f0,f1,PartD.val]) rfl ⟨by rw [HQ.out] <;> rfl,?_⟩
    exact(HM.out.setCell (p:=⟨r,0,none⟩) (.inr (Nat.le_of_eq HRE.out)) _).setCell (p:=⟨r,1,none⟩) (.inr (Nat.le_of_eq HRE.out)) _
end Go.Proofs.YtnlloaimplgjnaaGreatDoor
