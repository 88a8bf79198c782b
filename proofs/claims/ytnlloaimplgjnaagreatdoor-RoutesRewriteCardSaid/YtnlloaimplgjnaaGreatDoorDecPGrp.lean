/- Several texts in one. (1) Units decoded where plus signs stand for blanks (package message: decoded). Conditions: texts of modest size. (2) Queries, the plain law of the reference's reading: '+' replaced by %20, cut, decoded; a query whose units are right has right pairs. No program in sight. No conditions. (3) Queries of few pairs, the plain law: joined of few words, or of too many. No program in sight. No conditions. (4) Words joined: which ones (written by mkwordsj.py out of XTplN). Conditions: those of the stream. (5) Makers of headers, queries and paths. Conditions: as for the stream. -/
import Derived.Test.YtnlloaimplgjnaaGreatDoorBuGrp
import Derived.Test.YtnlloaimplgjnaaGreatDoorNumMGrp
import Derived.Lib.Replace
import Derived.Test.YtnlloaimplgjnaaGreatDoorRtLawGrp
import Derived.Test.YtnlloaimplgjnaaGreatDoorPairGrp
import Derived.Test.YtnlloaimplgjnaaGreatDoorHeldGrp
namespace Go.Proofs.YtnlloaimplgjnaaGreatDoor
open Go.RowKit
set_option linter.unusedVariables false
set_option linter.unusedSimpArgs false
theorem plus_len (s:List UInt8):(plusL s).length=s.length:=by unfold plusL;rw [List.length_map]
theorem plus_at {s:List UInt8} {k:Nat} (h:k<(plusL s).length) (h2:k<s.length):(plusL s)[k]=plusC s[k]:=by simp [plusL]
theorem plus_getD (s:List UInt8) (i:Nat):(plusL s).getD i 0=plusC (s.getD i 0):=by
 unfold plusL
 rw [List.getD_eq_getElem?_getD,List.getD_eq_getElem?_getD,List.getElem?_map]
 cases s[i]? <;> rfl
theorem hex_plusC (c:UInt8):isHexN (plusC c).toNat=isHexN c.toNat:=by
 unfold plusC
 split
 ·rename_i h;subst h;rfl
 ·rfl
theorem unitAt_plus (s:List UInt8) (i:Nat):unitAt (plusL s) i=unitAt s i:=by
 unfold unitAt
 rw [plus_len,plus_getD,plus_getD,hex_plusC,hex_plusC]
theorem plusC_hex {c:UInt8} (h:isHexN c.toNat=true):plusC c=c:=by
 unfold plusC
 rw [if_neg]
 intro e
 subst e
 exact absurd h (by decide)
theorem unitV_plus {s:List UInt8} {i:Nat} (h:unitAt s i=true):unitV ((plusL s).getD (i+1) 0) ((plusL s).getD (i+2) 0)=unitV (s.getD (i+1) 0) (s.getD (i+2) 0):=by
 obtain⟨_,h1,h2,_⟩:=unit_two h
 rw [plus_getD,plus_getD,plusC_hex h1,plusC_hex h2]
def DecQ (s:List UInt8) (k:Nat) (o:List UInt8):Prop:=DecTo (plusL s) k o
theorem DecQ.plus {s:List UInt8} {k:Nat} {o:List UInt8} (h:DecQ s k o) (hk:k<s.length) (h1:s[k]=43):DecQ s (k+1) (o++ [32]):=by
 have hk2:k<(plusL s).length:=by rw [plus_len];exact hk
 have e:(plusL s)[k]=32:=by rw [plus_at hk2 hk,h1];rfl
 have:=DecTo.plain h hk2 (by rw [e];decide)
 rw [e]at this
 exact this
theorem DecQ.plain {s:List UInt8} {k:Nat} {o:List UInt8} (h:DecQ s k o) (hk:k<s.length) (h0:s[k]≠43) (h1:s[k]≠37):DecQ s (k+1) (o++ [s[k]]):=by
 have hk2:k<(plusL s).length:=by rw [plus_len];exact hk
 have e:(plusL s)[k]=s[k]:=by rw [plus_at hk2 hk];exact if_neg h0
 have:=DecTo.plain h hk2 (by rw [e];exact h1)
 rw [e]at this
 exact this
theorem DecQ.unit {s:List UInt8} {k:Nat} {o:List UInt8} (h:DecQ s k o) (hk:k<s.length) (h1:s[k]=37) (h2:unitAt s k=true):DecQ s (k+3) (o++ [unitV (s.getD (k+1) 0) (s.getD (k+2) 0)]):=by
 have hk2:k<(plusL s).length:=by rw [plus_len];exact hk
 have:=DecTo.unit h hk2 (by rw [plus_at hk2 hk,h1];rfl) (by rw [unitAt_plus];exact h2)
 rw [unitV_plus h2]at this
 exact this
theorem DecQ.bad {s:List UInt8} {k:Nat} {o:List UInt8} (h:DecQ s k o) (hk:k<s.length) (h1:s[k]=37) (h2:unitAt s k=false):decL (plusL s)=none:=by
 have hk2:k<(plusL s).length:=by rw [plus_len];exact hk
 exact DecTo.bad h hk2 (by rw [plus_at hk2 hk,h1];rfl) (by rw [unitAt_plus];exact h2)
theorem DecQ.done {s:List UInt8} {k:Nat} {o:List UInt8} (h:DecQ s k o) (hk:s.length≤k):decL (plusL s)=some o:=DecTo.done h (by rw [plus_len];exact hk)
set_option maxRecDepth 100000 in
set_option maxHeartbeats 2000000 in
theorem msg_decodedP (s:ByteArray) (w:World) (hs:s.size≤900000):
  Calls Tryz.prog 86 #[.string s,.bool true] w fun e w'=>e= .returned (decV (plusL s.data.toList))∧New w w':=by
 have hb0:=Blk.new w 109 #[.pointer none,.slice none 0 0]
 have hm0:New w (w.alloc (.cells #[.pointer none,.slice none 0 0] 109)):=(Mod.refl _ _).alloc _
 go_enter Tryz.func86,Tryz.ntmps86
 go_upto_region 2 with(fail)
 generalize w.alloc (.cells #[.pointer none,.slice none 0 0] 109)=w1 at *
 generalize hbe:w.heap.size=B at *
 have HB:=hId (Bw.fresh hb0 (Nat.le_refl _))
 have HM:=hId hm0
 have HBE:=hId hbe
 clear hb0 hm0 hbe
 go_wp2_with fail
 go_loopw [7] (fun i wr=>∃(k:Nat) (o:List UInt8),k≤s.size∧i= .int .i64 k∧Hid (DecQ s.data.toList k o)∧Hid (Bw 109 B B o wr)∧Hid (New w wr)) (fun i _=>s.size -(intOf i).toNat)
 case atStart=>exact⟨0,[],Nat.zero_le _,rfl,hId (DecTo.start _),HB,HM⟩
 case round=>
  clear HB HM
  rename World=>wr
  obtain⟨k,o,hk,rfl,HD,HB,HM⟩:=hrel
  by_cases hlt:k<s.size
  ·have hkl:k<s.data.toList.length:=hlt
   have HG:Hid (s.data.toList[k]=s[k]):=hId rfl
   have HL:Hid (o.length+1≤1000000):=hId (by have:=HD.out.2;omega)
   have hu:=msg_isUnit s k wr (by omega) hlt
   have HKL:=hId hkl
   by_cases h43:s[k]=43
   ·have c0:(s[k].toNat:Int)=43:=by rw [h43];decide
    have HD1:=hId (HD.out.plus HKL.out (HG.out.trans h43))
    clear HD hu h43
    go_wp2_with fail
    refine(bw_byte buT_self B B _ (32:UInt8) _ (by first | rfl |(exact HC.out.symm)) _ HB.out (by have hq:=HL.out;first | omega |(simp;done) |(simp at hq ⊢;omega))).mono ?_
    rintro e wz ⟨rfl,hb1,hm1,-⟩
    have HM1:=hId (HM.out.from hm1 (Nat.le_of_eq HBE.out))
    clear HB HM hm1
    have HB:=hId hb1
    have HM:=HM1
    clear hb1 HM1
    go_wp2_with fail
    go_roundw
    case rel=>exact⟨k+1,_,by omega,by go_num,HD1,HB,HM⟩
    case measure=>simp [intOf];omega
   have c0:¬ (s[k].toNat:Int)=43:=fun h=>h43 (UInt8.toNat_inj.1 (by have:(43:UInt8).toNat=43:=rfl;omega))
   by_cases h37:s[k]=37
   ·have c1:((s[k].toNat:Int) != 37)=false:=by rw [h37];rfl
    have H37:Hid (s.data.toList[k]'HKL.out=37):=hId (HG.out.trans h37)
    clear h37 h43
    cases hua:unitAt s.data.toList k <;> rw [hua]at hu
    ·have HN:=hId (HD.out.bad HKL.out H37.out hua)
     clear hua
     go_wp2_with (first |(refine hu.mono ?_;clear hu;rintro e w' ⟨rfl,rfl⟩))
     go_ret2
     exact⟨congrArg Ending.returned (decV_none HN.out).symm,HM.out⟩
    ·have hun:=msg_unit s k wr (by omega) hua
     have hk3:k+3≤s.size:=(unit_two hua).2.2.2
     have HD1:=hId (HD.out.unit HKL.out H37.out hua)
     clear hua HD
     generalize unitV (s.data.toList.getD (k+1) 0) (s.data.toList.getD (k+2) 0)=c at *
     have n1:((k:Int)+2+1).toNat=k+3:=by omega
     go_wp2_with (first |(refine hu.mono ?_;clear hu;rintro e w' ⟨rfl,rfl⟩) |(refine hun.mono ?_;clear hun;rintro e w2 ⟨rfl,hm2⟩))
     have HB2:=hId (HB.out.new hm2)
     have HM2:Hid (New w w2):=hId (HM.out.trans hm2)
     clear HB HM hm2
     have HB:=HB2
     have HM:=HM2
     clear HB2 HM2
     refine(bw_byte buT_self B B _ c _ (by first | rfl |(exact HC.out.symm)) _ HB.out (by have hq:=HL.out;first | omega |(simp;done) |(simp at hq ⊢;omega))).mono ?_
     rintro e wz ⟨rfl,hb1,hm1,-⟩
     have HM1:=hId (HM.out.from hm1 (Nat.le_of_eq HBE.out))
     clear HB HM hm1
     have HB:=hId hb1
     have HM:=HM1
     clear hb1 HM1
     go_wp2_with fail
     go_roundw
     case rel=>exact⟨k+3,_,by omega,by go_num,HD1,HB,HM⟩
     case measure=>simp [intOf];omega
   ·have c1:((s[k].toNat:Int) != 37)=true:=by
     simp only [bne_iff_ne,ne_eq]
     intro h
     exact h37 (UInt8.toNat_inj.1 (by have:(37:UInt8).toNat=37:=rfl;omega))
    have HD1:=hId (HD.out.plain HKL.out (by rw [HG.out];exact h43) (by rw [HG.out];exact h37))
    rw [HG.out]at HD1
    clear HD h37 hu h43
    go_wp2_with fail
    refine(bw_byte buT_self B B _ s[k] _ (by first | rfl |(exact HC.out.symm)) _ HB.out (by have hq:=HL.out;first | omega |(simp;done) |(simp at hq ⊢;omega))).mono ?_
    rintro e wz ⟨rfl,hb1,hm1,-⟩
    have HM1:=hId (HM.out.from hm1 (Nat.le_of_eq HBE.out))
    clear HB HM hm1
    have HB:=hId hb1
    have HM:=HM1
    clear hb1 HM1
    go_wp2_with fail
    go_roundw
    case rel=>exact⟨k+1,_,by omega,by go_num,HD1,HB,HM⟩
    case measure=>simp [intOf];omega
  ·obtain rfl:k=s.size:=by omega
   have HN:=hId (HD.out.done (Nat.le_refl _))
   go_wp2_with fail
   refine(bw_any B B o _ HB.out).mono ?_
   rintro e w2 ⟨rfl,hm2⟩
   have HM2:=hId (HM.out.from hm2 (Nat.le_of_eq HBE.out))
   clear hm2 HB HM
   go_wp2_with fail
   go_ret2
   exact⟨congrArg Ending.returned (decV_some HN.out).symm,HM2.out⟩
theorem replace_rep:∀ l:List UInt8,Lib.replaceK [43] [37,50,48] (Lib.count l [43]) l=repL l
 | []=>by
  have h:Lib.index ([]:List UInt8) [43]= -1:=by decide
  rw [Lib.count_miss h]
  rfl
 | b::l=>by
  have ih:=replace_rep l
  have hi:=index_cons 43 b l
  by_cases e:b=43
  ·rw [if_pos e]at hi
   have hi0:Lib.index (b::l) [43]=(0:Nat):=hi
   rw [Lib.count_hit (by decide) hi0,Nat.add_comm,Lib.replaceK_hit _ _ _ _ 0 hi0,e,repL_plus]
   show []++ [37,50,48]++Lib.replaceK [43] [37,50,48] (Lib.count l [43]) l=_
   rw [ih]
   rfl
  ·rw [if_neg e]at hi
   rw [repL_plain e,←ih]
   rcases Lib.index_spec l [43]with⟨h1,-⟩ |⟨i,h1,-⟩
   ·rw [if_pos h1]at hi
    rw [Lib.count_miss hi,Lib.count_miss h1]
    rfl
   ·rw [if_neg (by omega),h1]at hi
    have hi1:Lib.index (b::l) [43]=((i+1:Nat):Int):=by rw [hi];push_cast;rfl
    rw [Lib.count_hit (by decide) hi1,Lib.count_hit (by decide) h1,Nat.add_comm 1,Lib.replaceK_hit _ _ _ _ _ hi1,Nat.add_comm 1,Lib.replaceK_hit _ _ _ _ _ h1]
    rfl
theorem replaceAll_rep (l:List UInt8):Lib.replaceAll l [43] [37,50,48]=repL l:=by
 unfold Lib.replaceAll Lib.replace Lib.replaceNum
 rw [if_neg (by decide),if_pos (.inl (by decide))]
 exact replace_rep l
theorem repL_length (l:List UInt8):(repL l).length≤3 * l.length:=by
 induction l with
 | nil=>simp [repL]
 | cons c l ih=>
  rw [repL_cons,List.length_append,List.length_cons]
  have:(repC c).length≤3:=by unfold repC;split <;> simp
  omega
theorem cutL_cons (c b:UInt8) (l:List UInt8):cutL c (b::l)=if b=c then([],l,true) else(b::(cutL c l).1,(cutL c l).2.1,(cutL c l).2.2):=by
 unfold cutL
 by_cases h:b=c
 ·subst h;simp
 ·rw [if_neg h]
  have h1:(b != c)=true:=by simpa using h
  have h2:(c == b)=false:=by simpa using fun e=>h e.symm
  simp [List.takeWhile_cons,List.dropWhile_cons,h1,h]
  intro e
  exact absurd e.symm h
theorem cut_rep:∀ l:List UInt8,cutL 61 (repL l)=(repL (cutL 61 l).1,repL (cutL 61 l).2.1,(cutL 61 l).2.2)
 | []=>rfl
 | b::l=>by
  have ih:=cut_rep l
  by_cases e:b=43
  ·subst e
   rw [repL_plus,cutL_cons 61 43 l,if_neg (by decide),cutL_cons,if_neg (by decide),cutL_cons,if_neg (by decide),cutL_cons,if_neg (by decide),ih]
   simp only [repL_plus]
  ·rw [repL_plain e,cutL_cons 61 b l,cutL_cons 61 b (repL l)]
   by_cases h:b=61
   ·rw [if_pos h,if_pos h];rfl
   ·rw [if_neg h,if_neg h,ih]
    simp only [repL_plain e]
/-- plus signs do not decide whether units are right -/
theorem plus_some:∀(n:Nat) (l:List UInt8),l.length≤n→(decL (plusL l)).isSome=(decL l).isSome
 | _,[],_=>rfl
 | 0,_::_,h=>by simp at h
 | n+1,a::r,h=>by
  have hr:r.length≤n:=by simpa using h
  have e2:plusL (a::r)=plusC a::plusL r:=rfl
  rw [e2]
  by_cases e3:a=37
  ·subst e3
   match r,hr with
   | [],_=>rfl
   | [b],_=>rfl
   | b::c::r,hr=>
    show(decL (37::plusC b::plusC c::plusL r)).isSome=_
    have hb:=hex_plusC b
    have hc:=hex_plusC c
    by_cases hx:(isHexN b.toNat&&isHexN c.toNat)=true
    ·rw [decL_unit hx,decL_unit (by rw [hb,hc];exact hx),Option.isSome_map,Option.isSome_map,plus_some n r (by simp only [List.length_cons]at hr;omega)]
    ·have hx':(isHexN b.toNat&&isHexN c.toNat)=false:=by simpa using hx
     rw [decL_bad1 hx',decL_bad1 (by rw [hb,hc];exact hx')]
  ·rw [decL_plain e3,decL_plain (fun h=>e3 (plusC_pct.1 h)),Option.isSome_map,Option.isSome_map,plus_some n r hr]
/-- pieces at one byte -/
theorem one_cases (c:UInt8) (t:ByteArray):((cutL c t.data.toList).2.2=false∧pieces t ⟨#[c]⟩= [t]∧(⟨(cutL c t.data.toList).1.toArray⟩:ByteArray)=t)∨((cutL c t.data.toList).2.2=true∧pieces t ⟨#[c]⟩=(⟨(cutL c t.data.toList).1.toArray⟩:ByteArray)::pieces (⟨(cutL c t.data.toList).2.1.toArray⟩:ByteArray) ⟨#[c]⟩):=by
 have e:Lib.cut t.data.toList (⟨#[c]⟩:ByteArray).data.toList=cutL c t.data.toList:=cut_eq c _
 rcases Lib.indexB_cases t ⟨#[c]⟩with h |⟨i,h,hi⟩
 ·obtain⟨q1,q2,q3⟩:=Lib.cutB_miss t ⟨#[c]⟩ h
  rw [e]at q1 q2 q3
  exact .inl ⟨q3,pieces_miss h,q1⟩
 ·obtain⟨q1,q2,q3⟩:=Lib.cutB_hit t ⟨#[c]⟩ i h
  rw [e]at q1 q2 q3
  refine .inr ⟨q3,?_⟩
  rw [q1,q2]
  exact pieces_hit (Nat.le_refl _) h
theorem pair_some (x:ByteArray):(pairQ x).isSome=(decL x.data.toList).isSome:=by
 have hj:=cutL_join 61 x.data.toList
 have hn:=plus_some _ (cutL 61 x.data.toList).1 (Nat.le_refl _)
 have hv:=plus_some _ (cutL 61 x.data.toList).2.1 (Nat.le_refl _)
 have hp:(pairQ x).isSome=((decL (cutL 61 x.data.toList).1).isSome&&(decL (cutL 61 x.data.toList).2.1).isSome):=by
  rw [← hn,←hv]
  unfold pairQ cutE decP
  simp only
  cases decL (plusL (cutL 61 x.data.toList).1) <;> cases decL (plusL (cutL 61 x.data.toList).2.1) <;> rfl
 rw [hp]
 cases hc:(cutL 61 x.data.toList).2.2
 ·obtain⟨h1,h2⟩:=cutL_none hc
  rw [h1,h2]
  simp [decL]
 ·rw [hc,if_pos rfl]at hj
  conv=>rhs;rw [hj]
  rw [dec_sep (by decide) (by decide) _ _ (Nat.le_refl _)]
/-- a query is read just where its units are right -/
theorem pairs_some:∀(n:Nat) (s:ByteArray),s.size≤n→(pairsQ (pieces s ampB)).isSome=(decL s.data.toList).isSome
 | n,s,hn=>by
  have hone:∀ x:ByteArray,(pairsQ [x]).isSome=(decL x.data.toList).isSome:=fun x=>by
   rw [pairsQ]
   by_cases e:x=⟨#[]⟩
   ·rw [if_pos e,e];rfl
   ·rw [if_neg e,←pair_some x]
    cases pairQ x <;> rfl
  rcases one_cases 38 s with⟨_,h1,_⟩ |⟨h0,h1⟩
  ·rw [h1];exact hone s
  ·rw [h1]
   have hj:=cutL_join 38 s.data.toList
   rw [h0,if_pos rfl]at hj
   have hlen:s.data.toList.length=s.size:=rfl
   have hsz:(⟨(cutL 38 s.data.toList).2.1.toArray⟩:ByteArray).size<s.size:=by
    show(List.toArray _).size<_
    rw [List.size_toArray,←hlen]
    have:=congrArg List.length hj
    simp only [List.length_append,List.length_cons]at this
    omega
   match n,hn with
   | 0,hn=>omega
   | n+1,hn=>
    have ih:=pairs_some n (⟨(cutL 38 s.data.toList).2.1.toArray⟩:ByteArray) (by omega)
    have hd:(decL s.data.toList).isSome=((decL (cutL 38 s.data.toList).1).isSome&&(decL (cutL 38 s.data.toList).2.1).isSome):=by
     conv=>lhs;rw [hj]
     exact dec_sep (by decide) (by decide) _ _ (Nat.le_refl _) _
    rw [hd]
    have ih':(pairsQ (pieces (⟨(cutL 38 s.data.toList).2.1.toArray⟩:ByteArray) ampB)).isSome=(decL (cutL 38 s.data.toList).2.1).isSome:=ih
    rw [← ih',pairsQ]
    by_cases e:(⟨(cutL 38 s.data.toList).1.toArray⟩:ByteArray)=⟨#[]⟩
    ·rw [if_pos e]
     have:(cutL 38 s.data.toList).1= []:=by
      have:=congrArg (fun b:ByteArray=>b.data.toList) e
      simpa using this
     rw [this]
     simp [decL]
    ·rw [if_neg e]
     have hps:=pair_some (⟨(cutL 38 s.data.toList).1.toArray⟩:ByteArray)
     have e3:(⟨(cutL 38 s.data.toList).1.toArray⟩:ByteArray).data.toList=(cutL 38 s.data.toList).1:=rfl
     rw [e3]at hps
     rw [← hps]
     cases pairQ (⟨(cutL 38 s.data.toList).1.toArray⟩:ByteArray)with
     | none=>rfl
     | some p=>simp only [Option.isSome_some,Bool.true_and,Option.isSome_map]
/-- the pairs that the reference reads -/
def refPair (x:ByteArray):PairD:=(decB ⟨(cutL 61 (repL x.data.toList)).1.toArray⟩,decB ⟨(cutL 61 (repL x.data.toList)).2.1.toArray⟩)
theorem ref_pair {x:ByteArray} {p:PairD} (h:pairQ x=some p):refPair x=p:=by
 unfold refPair decB
 rw [cut_rep]
 simp only
 rw [decL_rep _ _ (Nat.le_refl _),decL_rep _ _ (Nat.le_refl _)]
 unfold pairQ cutE decP at h
 simp only at h
 cases h1:decL (plusL (cutL 61 x.data.toList).1)with
 | none=>rw [h1]at h;cases h
 | some a=>
  rw [h1]at h
  cases h2:decL (plusL (cutL 61 x.data.toList).2.1)with
  | none=>rw [h2]at h;cases h
  | some b=>
   rw [h2]at h
   simp only [Option.some.injEq]at h
   rw [← h]
   rfl
/-- a query of a modest size that reads as few pairs -/
def QFew (s:ByteArray):Prop:=(queryOf s).2.length≤19
theorem cutL_app {c:UInt8} {x r:List UInt8} (h:c ∉ x):cutL c (x++c::r)=(x,r,true):=by
 induction x with
 | nil=>rw [List.nil_append,cutL_cons,if_pos rfl]
 | cons a x ih=>
  have ha:a≠c:=fun e=>h (by rw [e];exact List.mem_cons_self)
  rw [List.cons_append,cutL_cons,if_neg ha,ih (fun e=>h (List.mem_cons_of_mem _ e))]
theorem cutL_out {c:UInt8} {x:List UInt8} (h:c ∉ x):(cutL c x).2.2=false:=by
 unfold cutL
 simpa using h
theorem pieces_join:∀(ys:List ByteArray),ys≠[]→(∀ y∈ys,(38:UInt8) ∉ y.data.toList)→pieces (⟨(Lib.join (ys.map (·.data.toList)) [38]).toArray⟩:ByteArray) ampB=ys
 | [],h0,_=>absurd rfl h0
 | [x],_,h=>by
  have hx:=h x List.mem_cons_self
  rw [List.map_cons,List.map_nil,Lib.join_one]
  show pieces x ampB= [x]
  rcases one_cases 38 x with⟨_,h2,_⟩ |⟨h1,_⟩
  ·exact h2
  ·rw [cutL_out hx]at h1;cases h1
 | x::y::r,_,h=>by
  have hx:=h x List.mem_cons_self
  have ih:=pieces_join (y::r) (by simp) (fun z hz=>h z (List.mem_cons_of_mem _ hz))
  have e:Lib.join ((x::y::r).map (·.data.toList)) [38]=x.data.toList++38::Lib.join ((y::r).map (·.data.toList)) [38]:=by
   simp only [List.map_cons]
   rw [Lib.join_cons,Lib.join_cons]
   simp [Lib.joinTail]
  rw [e]
  generalize Lib.join ((y::r).map (·.data.toList)) [38]=J at *
  have hc:cutL 38 (⟨(x.data.toList++38::J).toArray⟩:ByteArray).data.toList=(x.data.toList,J,true):=cutL_app hx
  rcases one_cases 38 (⟨(x.data.toList++38::J).toArray⟩:ByteArray)with⟨h1,_,_⟩ |⟨_,h2⟩
  ·rw [hc]at h1;cases h1
  ·rw [hc]at h2
   rw [h2,ih]
theorem pairsQ_len:∀(l:List ByteArray) (r:List PairD),pairsQ l=some r→r.length≤l.length∧((∀ x∈l,x≠⟨#[]⟩)→r.length=l.length)
 | [],r,h=>by
  rw [pairsQ]at h
  injection h with h
  subst h
  exact⟨Nat.le_refl _,fun _=>rfl⟩
 | x::l,r,h=>by
  rw [pairsQ]at h
  by_cases e:x=⟨#[]⟩
  ·rw [if_pos e]at h
   have:=(pairsQ_len l r h).1
   exact⟨by rw [List.length_cons];omega,fun h2=>absurd e (h2 x List.mem_cons_self)⟩
  ·rw [if_neg e]at h
   cases hp:pairQ x with
   | none=>rw [hp]at h;cases h
   | some p=>
    rw [hp]at h
    simp only at h
    cases hr:pairsQ l with
    | none=>rw [hr]at h;cases h
    | some r2=>
     rw [hr]at h
     simp only [Option.map_some,Option.some.injEq]at h
     subst h
     have h3:=pairsQ_len l r2 hr
     refine⟨by rw [List.length_cons,List.length_cons];omega,fun h2=>?_⟩
     have:=h3.2 (fun y hy=>h2 y (List.mem_cons_of_mem _ hy))
     rw [List.length_cons,List.length_cons,this]
theorem few_pieces {s:ByteArray} (h:(pieces s ampB).length≤19):QFew s:=by
 unfold QFew queryOf
 split
 ·exact Nat.zero_le _
 ·cases hq:pairsQ (pieces s ampB)with
  | none=>exact Nat.zero_le _
  | some l=>
   have:=(pairsQ_len _ _ hq).1
   simp only
   split
   ·exact Nat.zero_le _
   ·simp only;omega
theorem few_many {s:ByteArray} (h:100<(pieces s ampB).length) (h2:∀ x∈pieces s ampB,x≠⟨#[]⟩):QFew s:=by
 unfold QFew queryOf
 split
 ·exact Nat.zero_le _
 ·cases hq:pairsQ (pieces s ampB)with
  | none=>exact Nat.zero_le _
  | some l=>
   have:=(pairsQ_len _ _ hq).2 h2
   simp only
   rw [if_pos (by omega)]
   exact Nat.zero_le _
theorem few_small {s:ByteArray} (h:s.size≤18):QFew s:=by
 refine few_pieces ?_
 rw [pieces_length (show 1≤(ampB:ByteArray).size from Nat.le_refl _)]
 have:=Lib.countB_le ampB (Nat.le_refl _) s.size s (Nat.le_refl _)
 omega
/-- as a query's maker joins words -/
theorem few_words {xs:List ByteArray} (hx:∀ x∈xs,x.size≤10∧(38:UInt8) ∉ x.data.toList) {s:ByteArray} {m:Nat} (hm:m≤4) (h:∃ ys:List ByteArray,ys.length=m∧(∀ y∈ys,y∈xs)∧s=(⟨(Lib.join (ys.map (·.data.toList)) (⟨#[38]⟩:ByteArray).data.toList).toArray⟩:ByteArray)):s.size≤210∧QFew s:=by
 obtain⟨ys,hl,hy,rfl⟩:=h
 refine⟨?_,?_⟩
 ·have h1:=join_le [38] 10 (ys.map (·.data.toList)) (fun z hz=>by
   obtain⟨y,hy2,rfl⟩:=List.mem_map.1 hz
   exact(hx y (hy y hy2)).1)
  have h2:(ys.map (·.data.toList)).length * (10+ [(38:UInt8)].length)≤4 * 11:=Nat.mul_le_mul (by rw [List.length_map];omega) (by decide)
  show(List.toArray _).size≤_
  rw [List.size_toArray]
  exact Nat.le_trans h1 (by omega)
 ·by_cases h0:ys= []
  ·subst h0
   exact few_small (by decide)
  ·refine few_pieces ?_
   show(pieces (⟨(Lib.join (ys.map (·.data.toList)) [38]).toArray⟩:ByteArray) ampB).length≤19
   rw [pieces_join ys h0 (fun y h=>(hx y (hy y h)).2)]
   omega
theorem few_many2 {s:ByteArray} (h:∃ ys:List ByteArray,ys.length=101∧(∀ y∈ys,y∈[(⟨#[120]⟩:ByteArray)])∧s=(⟨(Lib.join (ys.map (·.data.toList)) (⟨#[38]⟩:ByteArray).data.toList).toArray⟩:ByteArray)):s.size≤210∧QFew s:=by
 obtain⟨ys,hl,hy,rfl⟩:=h
 have h0:ys≠[]:=fun e=>by rw [e]at hl;cases hl
 have hp:pieces (⟨(Lib.join (ys.map (·.data.toList)) [38]).toArray⟩:ByteArray) ampB=ys:=pieces_join ys h0 (fun y h=>by
  have:=hy y h
  simp only [List.mem_singleton]at this
  subst this
  decide)
 refine⟨?_,few_many (s:=(⟨(Lib.join (ys.map (·.data.toList)) [38]).toArray⟩:ByteArray)) (by rw [hp];omega) (fun x hx=>?_)⟩
 ·have h1:=join_le [38] 1 (ys.map (·.data.toList)) (fun z hz=>by
   obtain⟨y,hy2,rfl⟩:=List.mem_map.1 hz
   have:=hy y hy2
   simp only [List.mem_singleton]at this
   subst this
   decide)
  have h2:(ys.map (·.data.toList)).length * (1+ [(38:UInt8)].length)≤101 * 2:=Nat.mul_le_mul (by rw [List.length_map];omega) (by decide)
  show(List.toArray _).size≤_
  rw [List.size_toArray]
  exact Nat.le_trans h1 (by omega)
 ·rw [hp]at hx
  have:=hy x hx
  simp only [List.mem_singleton]at this
  subst this
  decide
set_option maxRecDepth 100000 in
set_option maxHeartbeats 2000000 in
theorem words_join (xs:List ByteArray) (Z b k g n m:Nat) (sep:ByteArray) (w:World) (hs:SInv b w k) (hk:k<4611686018427000000) (hx:Blk w g 9 (xs.map Value.string).toArray) (hn:xs.length=n) (hn0:0<n) (hn1:n<1000) (hm:m≤200) (hZ:∀ x∈xs,x.size≤Z) (hZ2:Z≤1000) (hsep:sep.size≤10):
  Calls Tryz.prog 22 #[.pointer (some ⟨b,0,none⟩),.int .i64 (m:Int),.string sep,.slice (some ⟨g,0,none⟩) n n] w (RStr fun s w'=>(∃ ys:List ByteArray,ys.length=m∧(∀ y∈ys,y∈xs)∧s=(⟨(Lib.join (ys.map (·.data.toList)) sep.data.toList).toArray⟩:ByteArray))∧SStep b w w' (k+m)):=by
 have hgb:g≠b:=by
  obtain⟨A,l,c,q,z,hb,_⟩:=hs
  exact hx.ne hb (by decide)
 have hbl:=hs.lt
 have hgl:=hx.lt
 have HX:=hId hx
 have HZ:=hId hZ
 have T0:=hId (SStep.refl hs)
 clear hx hZ hs
 go_enter Tryz.func22,Tryz.ntmps22
 go_wp2_with fail
 go_loopw [9,11] (fun o i wr=>∃(j c:Nat) (A:Option Addr) (ys:List ByteArray),j≤m∧i= .int .i64 j∧o= .slice A j c∧Hid (Own wr w.heap.size 9 1 sEnc A j c ys)∧Hid (∀ y∈ys,y.size≤Z)∧Hid (∀ y∈ys,y∈xs)∧Hid (SStep b w wr (k+j))∧Hid (Blk wr g 9 (xs.map Value.string).toArray)) (fun _ i _=>m -(intOf i).toNat)
 case atStart=>exact⟨0,0,none,[],Nat.zero_le _,rfl,rfl,hId Own.nil,hId (by simp),hId (by simp),T0,HX⟩
 case round=>
  clear T0 HX
  rename World=>wr
  obtain⟨j,c,A,ys,hj,rfl,rfl,HO,HY,HV,T,HX⟩:=hrel
  by_cases hlt:j<m
  ·have hsm:=some_any xs b (k+j) g n wr T.out.inv (by omega) HX.out hn hn0 hn1
   have HOF:Hid (∀ g',blkOf A=some g'→w.heap.size≤g'):=hId (fun g' e=>HO.out.farS g' e)
   go_wp2_with fail
   refine hsm.mono ?_
   clear hsm
   rintro e w2 ⟨s,rfl,hsx,h2⟩
   have hso:=h2.only.size
   have HO2:=hId (HO.out.mod h2.only (fun g' e e2=>by have:=HOF.out g' e;omega))
   have T2:=hId (T.out.trans h2)
   have HX2:=hId (HX.out.mod h2.only hgb)
   have HSZ:=hId (HZ.out s hsx)
   have HSX:=hId hsx
   have hwz:=T.out.only.size
   clear h2 HO T HX
   go_wp2_with (at_builtin;refine wpList_push rfl _ _ _ rfl 16 Tryz.underlying26 einfo_str rfl (HO2.out.alloc _) s w2.heap.size rfl (Blk.new _ _ _) (fun j hj=>sEnc_one _ j hj) (by omega) (by omega) (by simp;omega) ?_;intro g8 cap8 w8 own8 hm8 hat8 hlt8)
   have HO8:=hId own8
   have T8:=hId ((((T2.out.alloc (.cells #[.string s] 9))).mod hm8 (fun i e=>HOF.out i e)).more (show k+j+1≤k+(j+1)by omega))
   have HX8:=hId ((HX2.out.mod ((Mod.refl (fun _=>False) _).alloc (.cells #[.string s] 9)) (fun e=>e)).mod hm8 (fun e=>by have:=HOF.out g e;omega))
   clear own8 hm8
   go_roundw
   case rel=>exact⟨j+1,cap8,some ⟨g8,0,none⟩,ys++ [s],by omega,by go_num,rfl,HO8,hId (fun y hy=>by
    rcases List.mem_append.1 hy with h | h
    ·exact HY.out y h
    ·simp at h;subst h;exact HSZ.out),hId (fun y hy=>by
    rcases List.mem_append.1 hy with h | h
    ·exact HV.out y h
    ·simp at h;subst h;exact HSX.out),T8,HX8⟩
   case measure=>simp [intOf];omega
  ·obtain rfl:j=m:=by omega
   have hyl:=HO.out.1
   by_cases h0:j=0
   ·subst h0
    have hj0:=Tryz.strings_Join_none A c sep wr
    go_wp2_with (first |(refine hj0.mono ?_;clear hj0;rintro e w3 ⟨rfl,hw⟩;rw [hw];clear hw))
    go_ret
    exact⟨⟨#[]⟩,rfl,⟨[],rfl,by simp,rfl⟩,T.out⟩
   ·rcases HO.out.blk with⟨_,h1,_⟩ |⟨g',rfl,hB,htb⟩
    ·exact absurd h1 h0
    ·obtain⟨g2,o2,hA,htb2,hc⟩:=HO.out.sl.2 (by omega)
     injection hA with hA
     injection hA with e1 e2 e3
     subst e1 e2
     have hle:(Lib.join (ys.map (·.data.toList)) sep.data.toList).length≤j * (Z+sep.size):=by
      have:=join_le sep.data.toList Z (ys.map (·.data.toList)) (fun x hx=>by
       obtain⟨y,hy,rfl⟩:=List.mem_map.1 hx
       exact HY.out y hy)
      rw [List.length_map,hyl]at this
      exact this
     have hmul:j * (Z+sep.size)≤200 * 1010:=Nat.mul_le_mul (by omega) (by omega)
     have hcap:j≤c:=by
      obtain⟨_,_,_,_,h5,_⟩:=HO.out.form (by omega)
      exact h5
     have hjn:=Tryz.strings_Join g' 0 c ys sep wr (fun i x hx=>by
      have hi:i<ys.length:=by
       rcases Nat.lt_or_ge i ys.length with h | h
       ·exact h
       ·rw [List.getElem?_eq_none h]at hx;cases hx
      rw [List.getElem?_eq_getElem hi]at hx
      injection hx with hx
      subst hx
      have:=hc i hi 0 (by decide)
      rw [show 0+i * 1+0=0+i by omega]at this
      exact this) htb.lt (by omega) (by omega) (by omega)
     rw [hyl]at hjn
     have HLE:Hid (∃ zs:List ByteArray,zs.length=j∧(∀ y∈zs,y∈xs)∧(⟨(Lib.join (ys.map (·.data.toList)) sep.data.toList).toArray⟩:ByteArray)=(⟨(Lib.join (zs.map (·.data.toList)) sep.data.toList).toArray⟩:ByteArray)):=hId ⟨ys,hyl,HV.out,rfl⟩
     generalize (⟨(Lib.join (ys.map (·.data.toList)) sep.data.toList).toArray⟩:ByteArray)=U at *
     clear hle hmul hc htb htb2
     go_wp2_with (first |(refine hjn.mono ?_;clear hjn;rintro e w3 ⟨rfl,hm3⟩;have hm3:=hId hm3))
     go_ret
     exact⟨U,rfl,HLE.out,T.out.new (Mod.of_below hm3.out)⟩
set_option maxRecDepth 100000 in
set_option maxHeartbeats 1000000 in
theorem headers_any (b k most:Nat) (w:World) (hs:SInv b w k) (hk:k<4611686018426000000) (hm:most≤100):
  Calls Tryz.prog 65 #[.pointer (some ⟨b,0,none⟩),.int .i64 (most:Int)] w (RHdrs b w.heap.size w (k+2 * most+20) (most+52)):=by
 have hbl:=hs.lt
 go_enter Tryz.func65,Tryz.ntmps65
 go_wp2_with fail
 refine(rightHeaders_any b k most w hs hk hm).mono ?_
 rintro e w1 ⟨A,n,c,ls,rfl,own,hn,hsm,h1⟩
 have HO:=hId own
 have HQ:=hId hsm
 have HOF:Hid (∀ g',blkOf A=some g'→w.heap.size≤g'):=hId (fun g' e=>HO.out.farP g' e)
 have T:=hId h1
 have hTz:=h1.only.size
 clear own hsm h1 hs
 go_wp2_with fail
 refine(flip_any b _ 10 w1 T.out.inv (by omega) (by omega) (by omega)).mono ?_
 rintro e w2 ⟨q,rfl,h2⟩
 have HO2:=hId (HO.out.mod h2.only (fun g e e2=>by have:=HOF.out g e;omega))
 have T2:=hId (T.out.trans h2)
 have hTz2:=h2.only.size
 clear h2 HO T
 cases q
 ·have HO:=HO2
  have T:=T2
  clear HO2 T2
  go_wp2_with fail
  refine(flip_any b _ 60 w2 T.out.inv (by omega) (by omega) (by omega)).mono ?_
  rintro e w10 ⟨q,rfl,h10⟩
  have HO10:=hId (HO.out.mod h10.only (fun g e e2=>by have:=HOF.out g e;omega))
  have T10:=hId ((T.out.trans h10).more (show _≤k+2 * most+20 by omega))
  clear h10 HO T
  cases q
  ·go_wp2_with fail
   go_ret
   exact⟨A,n,c,ls,rfl,HO10.out,by omega,HQ.out,T10.out.more (by omega)⟩
  ·go_wp2_with fail
   go_loopw [5,21] (fun o i wr=>∃(j:Nat) (A':Option Addr) (c':Nat) (ls':List PairD),j≤51∧i= .int .i64 j∧o= .slice A' (n+j) c'∧Hid (HOwn wr w.heap.size A' (n+j) c' ls')∧Hid (HSmall ls')∧Hid (SStep b w wr (k+2 * most+20))) (fun _ i _=>51 -(intOf i).toNat)
   case atStart=>exact⟨0,A,c,ls,Nat.zero_le _,rfl,rfl,HO10,HQ,T10⟩
   case round=>
    clear HO10 HQ T10 HOF
    rename World=>wr
    obtain⟨j,A',c',ls',hj,rfl,rfl,HO,HQ,T⟩:=hrel
    have HOF:Hid (∀ g',blkOf A'=some g'→w.heap.size≤g'):=hId (fun g' e=>HO.out.farP g' e)
    have hTz:=T.out.only.size
    by_cases hlt:j<51
    ·have hBq:w.heap.size≤(wr.alloc (.cells #[.string ⟨#[110]⟩,.string ⟨#[118]⟩] 54)).heap.size:=by simp;omega
     have HOA:=HO.out.alloc (.cells #[.string ⟨#[110]⟩,.string ⟨#[118]⟩] 54)
     have hBn:=Blk.new wr 54 #[.string ⟨#[110]⟩,.string ⟨#[118]⟩]
     go_wp2_with (at_builtin;refine wpList_push rfl _ _ _ rfl 32 Tryz.underlying31 einfo_hdr rfl HOA (⟨#[110]⟩,⟨#[118]⟩) wr.heap.size rfl hBn (fun j hj=>pairEnc_one _ j hj) (by omega) (by omega) hBq ?_;intro g8 cap8 w8 own8 hm8 hat8 hlt8)
     have HO8:=hId own8
     have T8:=hId ((T.out.alloc (.cells #[.string ⟨#[110]⟩,.string ⟨#[118]⟩] 54)).modP hm8 (fun i e=>HOF.out i e))
     clear own8 hm8
     go_roundw
     case rel=>exact⟨j+1,some ⟨g8,0,none⟩,cap8,ls'++ [(⟨#[110]⟩,⟨#[118]⟩)],by omega,by go_num,rfl,HO8,hId (HQ.out.snoc (by decide) (by decide)),T8⟩
     case measure=>simp [intOf];omega
    ·obtain rfl:j=51:=by omega
     go_wp2_with fail
     go_ret
     exact⟨A',n+51,c',ls',rfl,HO.out,by omega,HQ.out,T.out.more (by omega)⟩
 ·go_wp2_with fail
  refine(tokenText_any b _ w2 T2.out.inv (by omega)).mono ?_
  rintro e w3 ⟨x,rfl,hx,h3⟩
  have HO3:=hId (HO2.out.mod h3.only (fun g e e2=>by have:=HOF.out g e;omega))
  have T3:=hId (T2.out.trans h3)
  have hTz3:=h3.only.size
  clear h3 HO2 T2
  go_wp2_with fail
  refine(fieldText_any b _ w3 T3.out.inv (by omega)).mono ?_
  rintro e w4 ⟨y,rfl,hy,h4⟩
  have HO4:=hId (HO3.out.mod h4.only (fun g e e2=>by have:=HOF.out g e;omega))
  have T4:=hId (T3.out.trans h4)
  have hTz4:=h4.only.size
  clear h4 HO3 T3
  have hBq:w.heap.size≤(w4.alloc (.cells #[.string x,.string y] 54)).heap.size:=by simp;omega
  have HOA:=HO4.out.alloc (.cells #[.string x,.string y] 54)
  have hBn:=Blk.new w4 54 #[.string x,.string y]
  go_wp2_with (at_builtin;refine wpList_push rfl _ _ _ rfl 32 Tryz.underlying31 einfo_hdr rfl HOA (x,y) w4.heap.size rfl hBn (fun j hj=>pairEnc_one _ j hj) (by omega) (by omega) hBq ?_;intro g8 cap8 w8 own8 hm8 hat8 hlt8)
  have T:=hId ((T4.out.alloc (.cells #[.string x,.string y] 54)).modP hm8 (fun i e=>HOF.out i e))
  have HO:=hId own8
  have HQ1:=hId (HQ.out.snoc (a:=x) (b:=y) (by omega) hy)
  have hTz8:=T.out.only.size
  clear own8 hm8 HOF HO4 T4 HQ hBn HOA hBq
  have HQ:=HQ1
  have HOF:Hid (∀ g',blkOf (some (⟨g8,0,none⟩:Addr))=some g'→w.heap.size≤g'):=hId (fun g' e=>HO.out.farP g' e)
  clear HQ1
  go_wp2_with fail
  refine(flip_any b _ 60 w8 T.out.inv (by omega) (by omega) (by omega)).mono ?_
  rintro e w10 ⟨q,rfl,h10⟩
  have HO10:=hId (HO.out.mod h10.only (fun g e e2=>by have:=HOF.out g e;omega))
  have T10:=hId ((T.out.trans h10).more (show _≤k+2 * most+20 by omega))
  clear h10 HO T
  cases q
  ·go_wp2_with fail
   go_ret
   exact⟨(some ⟨g8,0,none⟩),(n+1),cap8,(ls++ [(x,y)]),rfl,HO10.out,by omega,HQ.out,T10.out.more (by omega)⟩
  ·go_wp2_with fail
   go_loopw [5,21] (fun o i wr=>∃(j:Nat) (A':Option Addr) (c':Nat) (ls':List PairD),j≤51∧i= .int .i64 j∧o= .slice A' ((n+1)+j) c'∧Hid (HOwn wr w.heap.size A' ((n+1)+j) c' ls')∧Hid (HSmall ls')∧Hid (SStep b w wr (k+2 * most+20))) (fun _ i _=>51 -(intOf i).toNat)
   case atStart=>exact⟨0,(some ⟨g8,0,none⟩),cap8,(ls++ [(x,y)]),Nat.zero_le _,rfl,rfl,HO10,HQ,T10⟩
   case round=>
    clear HO10 HQ T10 HOF
    rename World=>wr
    obtain⟨j,A',c',ls',hj,rfl,rfl,HO,HQ,T⟩:=hrel
    have HOF:Hid (∀ g',blkOf A'=some g'→w.heap.size≤g'):=hId (fun g' e=>HO.out.farP g' e)
    have hTz:=T.out.only.size
    by_cases hlt:j<51
    ·have hBq:w.heap.size≤(wr.alloc (.cells #[.string ⟨#[110]⟩,.string ⟨#[118]⟩] 54)).heap.size:=by simp;omega
     have HOA:=HO.out.alloc (.cells #[.string ⟨#[110]⟩,.string ⟨#[118]⟩] 54)
     have hBn:=Blk.new wr 54 #[.string ⟨#[110]⟩,.string ⟨#[118]⟩]
     go_wp2_with (at_builtin;refine wpList_push rfl _ _ _ rfl 32 Tryz.underlying31 einfo_hdr rfl HOA (⟨#[110]⟩,⟨#[118]⟩) wr.heap.size rfl hBn (fun j hj=>pairEnc_one _ j hj) (by omega) (by omega) hBq ?_;intro g8 cap8 w8 own8 hm8 hat8 hlt8)
     have HO8:=hId own8
     have T8:=hId ((T.out.alloc (.cells #[.string ⟨#[110]⟩,.string ⟨#[118]⟩] 54)).modP hm8 (fun i e=>HOF.out i e))
     clear own8 hm8
     go_roundw
     case rel=>exact⟨j+1,some ⟨g8,0,none⟩,cap8,ls'++ [(⟨#[110]⟩,⟨#[118]⟩)],by omega,by go_num,rfl,HO8,hId (HQ.out.snoc (by decide) (by decide)),T8⟩
     case measure=>simp [intOf];omega
    ·obtain rfl:j=51:=by omega
     go_wp2_with fail
     go_ret
     exact⟨A',(n+1)+51,c',ls',rfl,HO.out,by omega,HQ.out,T.out.more (by omega)⟩
set_option maxRecDepth 100000 in
set_option maxHeartbeats 1000000 in
theorem queryName_any (b k:Nat) (w:World) (hs:SInv b w k) (hk:k<4611686018426000000):
  Calls Tryz.prog 63 #[.pointer (some ⟨b,0,none⟩)] w (RStr fun m w'=>(m.size≤210∧QFew m)∧SStep b w w' (k+110)):=by
 go_enter Tryz.func63,Tryz.ntmps63
 go_wp2_with fail
 refine(range_any b k 0 4 w hs (by omega) (by omega) (by omega) (by omega)).mono ?_
 rintro e w1 ⟨m,rfl,m0,m1,h1⟩
 obtain⟨m,rfl⟩:=Int.eq_ofNat_of_zero_le m0
 go_wp2_with fail
 refine(words_join [⟨#[97,61,49]⟩,⟨#[98,61,50]⟩,⟨#[97,61]⟩,⟨#[61,120]⟩,⟨#[61]⟩,⟨#[99]⟩,⟨#[]⟩,⟨#[97,61,37,52,49,43,37,50,66]⟩,⟨#[100,61,120,37,50,54,121]⟩,⟨#[98,61,37,99,51]⟩,⟨#[97,61,49,61,50]⟩,⟨#[97,63,98,61,47]⟩] 10 b _ w1.heap.size 12 m ⟨#[38]⟩ _ (h1.alloc _).inv (by omega) (Blk.new _ _ _) rfl (by omega) (by omega) (by omega) (by decide) (by omega) (by decide)).mono ?_
 rintro e w2 ⟨s,rfl,hs2,h2⟩
 have T2:=(h1.alloc _).trans h2
 have HSS:Hid (s.size≤210∧QFew s):=hId (few_words (by decide) (by omega) hs2)
 clear h1 h2 hs2 hs
 go_wp2_with fail
 refine(flip_any b _ 12 w2 T2.inv (by omega) (by omega) (by omega)).mono ?_
 rintro e w3 ⟨q,rfl,h3⟩
 have T3:=T2.trans h3
 clear T2 h3
 cases q
 ·go_wp2_with fail
  go_ret
  exact⟨_,rfl,HSS.out,T3.more (by omega)⟩
 ·go_wp2_with fail
  refine(words_join [⟨#[120]⟩] 1 b _ w3.heap.size 1 101 ⟨#[38]⟩ _ (T3.alloc _).inv (by omega) (Blk.new _ _ _) rfl (by omega) (by omega) (by omega) (by decide) (by omega) (by decide)).mono ?_
  rintro e w4 ⟨U,rfl,hU,h4⟩
  have hz:=few_many2 hU
  have T4:=(T3.alloc _).trans h4
  clear T3 h4 hU
  go_wp2_with fail
  refine(some_any [⟨#[35]⟩,⟨#[97,37]⟩,⟨#[37,103,49,61,50]⟩,⟨#[97,32,98]⟩,⟨#[128]⟩,U] b _ w4.heap.size 6 _ (T4.alloc _).inv (by omega) (Blk.new _ _ _) rfl (by omega) (by omega)).mono ?_
  rintro e w5 ⟨t,rfl,ht,h5⟩
  have htz:t.size≤210∧QFew t:=by
   simp only [List.mem_cons,List.not_mem_nil,or_false]at ht
   rcases ht with rfl | rfl | rfl | rfl | rfl | rfl
   all_goals first | exact hz | exact⟨by decide,few_small (by decide)⟩
  have T5:=(T4.alloc _).trans h5
  clear T4 h5 ht
  go_wp2_with fail
  go_ret
  exact⟨_,rfl,htz,T5.more (by omega)⟩
set_option maxRecDepth 100000 in
set_option maxHeartbeats 1000000 in
theorem pathName_any (b k:Nat) (w:World) (hs:SInv b w k) (hk:k<4611686018426000000):
  Calls Tryz.prog 7 #[.pointer (some ⟨b,0,none⟩)] w (RStr fun m w'=>m.size≤1040∧SStep b w w' (k+20)):=by
 go_enter Tryz.func7,Tryz.ntmps7
 go_wp2_with fail
 refine(range_any b k 0 4 w hs (by omega) (by omega) (by omega) (by omega)).mono ?_
 rintro e w1 ⟨m,rfl,m0,m1,h1⟩
 obtain⟨m,rfl⟩:=Int.eq_ofNat_of_zero_le m0
 go_wp2_with fail
 refine(words_any [⟨#[97]⟩,⟨#[98]⟩,⟨#[37,52,49]⟩,⟨#[37,50,102]⟩,⟨#[37,55,101]⟩,⟨#[46]⟩,⟨#[46,46]⟩,⟨#[]⟩,⟨#[120,59,121]⟩,⟨#[99,37,50,48,100]⟩,⟨#[37,99,51,37,97,52]⟩,⟨#[65]⟩,⟨#[97,46,98]⟩,⟨#[126]⟩] 6 b _ w1.heap.size 14 m ⟨#[47]⟩ _ (h1.alloc _).inv (by omega) (Blk.new _ _ _) rfl (by omega) (by omega) (by omega) (by decide) (by omega) (by decide)).mono ?_
 rintro e w2 ⟨s,rfl,hs2,h2⟩
 have T2:=(h1.alloc _).trans h2
 have e1:(⟨#[47]⟩:ByteArray).size=1:=rfl
 have hss:s.size≤28:=by
  have:m * (6+(⟨#[47]⟩:ByteArray).size)≤4 * 7:=Nat.mul_le_mul (by omega) (by omega)
  omega
 have ha1:¬ 9223372036854775807<(⟨#[47]⟩:ByteArray).size+s.size:=by omega
 have hsz:((⟨#[47]⟩:ByteArray)++s).size≤29:=by rw [ByteArray.size_append];omega
 clear h1 h2 hs2 hs
 go_wp2_with fail
 generalize (⟨#[47]⟩:ByteArray)++s=p at *
 clear ha1 hss
 refine(flip_any b _ 12 w2 T2.inv (by omega) (by omega) (by omega)).mono ?_
 rintro e w3 ⟨q,rfl,h3⟩
 have T3:=T2.trans h3
 clear T2 h3
 cases q
 ·go_wp2_with fail
  refine(flip_any b _ 12 w3 T3.inv (by omega) (by omega) (by omega)).mono ?_
  rintro e wA ⟨q,rfl,hA⟩
  have TA:=T3.trans hA
  clear T3 hA
  cases q
  ·go_wp2_with fail
   go_ret
   exact⟨_,rfl,by omega,TA.more (by omega)⟩
  ·go_wp2_with fail
   refine(changed_with b _ p wA TA.inv (by omega) (by omega) ⟨#[47,46,37,50,102,65]⟩ (by decide) (by decide)).mono ?_
   rintro e wB ⟨t,rfl,ht,hB⟩
   have e6:(⟨#[47,46,37,50,102,65]⟩:ByteArray).size=6:=rfl
   rw [e6]at ht
   have TB:=TA.trans hB
   clear TA hB e6
   go_wp2_with fail
   go_ret
   exact⟨_,rfl,by omega,TB.more (by omega)⟩
 ·have hr:=Tryz.strings_Repeat ⟨#[37,50,48]⟩ 340 w3 (by decide) (by decide)
  have hz:(⟨(Lib.repeatL (⟨#[37,50,48]⟩:ByteArray).data.toList 340).toArray⟩:ByteArray).size≤1020:=by
   show(Lib.repeatL _ _).toArray.size≤_
   rw [List.size_toArray,Lib.repeatL_length]
   decide
  generalize (⟨(Lib.repeatL (⟨#[37,50,48]⟩:ByteArray).data.toList 340).toArray⟩:ByteArray)=R at *
  have ha2:¬ 9223372036854775807<(⟨#[47]⟩:ByteArray).size+R.size:=by omega
  have hz2:((⟨#[47]⟩:ByteArray)++R).size≤1021:=by rw [ByteArray.size_append];omega
  go_wp2_with fail
  refine hr.mono ?_
  clear hr
  rintro e w4 ⟨rfl,hm4⟩
  have T4:=T3.new (Mod.of_below hm4)
  clear T3 hm4
  go_wp2_with fail
  generalize (⟨#[47]⟩:ByteArray)++R=U at *
  clear ha2 hz
  refine(some_any [⟨#[]⟩,⟨#[97]⟩,⟨#[47,97,63,98]⟩,⟨#[47,97,35]⟩,⟨#[47,37]⟩,⟨#[47,37,52]⟩,⟨#[47,37,122,122]⟩,⟨#[47,127]⟩,⟨#[47,97,32,98]⟩,U] b _ w4.heap.size 10 _ (T4.alloc _).inv (by omega) (Blk.new _ _ _) rfl (by omega) (by omega)).mono ?_
  rintro e w5 ⟨t,rfl,ht,h5⟩
  have htz:t.size≤1021:=by
   simp only [List.mem_cons,List.not_mem_nil,or_false]at ht
   rcases ht with rfl | rfl | rfl | rfl | rfl | rfl | rfl | rfl | rfl | rfl
   all_goals first | exact hz2 | decide
  have T5:=(T4.alloc _).trans h5
  clear T4 h5 ht hz2
  go_wp2_with fail
  refine(flip_any b _ 12 w5 T5.inv (by omega) (by omega) (by omega)).mono ?_
  rintro e wA ⟨q,rfl,hA⟩
  have TA:=T5.trans hA
  clear T5 hA
  cases q
  ·go_wp2_with fail
   go_ret
   exact⟨_,rfl,by omega,TA.more (by omega)⟩
  ·go_wp2_with fail
   refine(changed_with b _ t wA TA.inv (by omega) (by omega) ⟨#[47,46,37,50,102,65]⟩ (by decide) (by decide)).mono ?_
   rintro e wB ⟨t,rfl,ht,hB⟩
   have e6:(⟨#[47,46,37,50,102,65]⟩:ByteArray).size=6:=rfl
   rw [e6]at ht
   have TB:=TA.trans hB
   clear TA hB e6
   go_wp2_with fail
   go_ret
   exact⟨_,rfl,by omega,TB.more (by omega)⟩
end Go.Proofs.YtnlloaimplgjnaaGreatDoor
