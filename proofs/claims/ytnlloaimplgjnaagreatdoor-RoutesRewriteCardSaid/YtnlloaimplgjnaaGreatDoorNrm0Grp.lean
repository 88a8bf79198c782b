/- Several texts in one. (1) Requests in their normal form: what both walks share. Conditions: none. (2) The reference reads the units of a path (gateref2: only, units, bytesOf). Conditions: a text of modest size; the library's variable ErrSyntax holds an error or nil. (3) The reference's words and hexadecimal digits. Conditions: strings of modest size. -/
import Derived.Test.YtnlloaimplgjnaaGreatDoorReq3Grp
import Derived.Test.YtnlloaimplgjnaaGreatDoorQryPGrp
import Derived.Test.YtnlloaimplgjnaaGreatDoorRtNeedGrp
import Derived.Test.YtnlloaimplgjnaaGreatDoorHexBad
import Derived.Test.YtnlloaimplgjnaaGreatDoorTpl3Grp
import Derived.Test.YtnlloaimplgjnaaGreatDoorNormGrp
import Derived.Test.YtnlloaimplgjnaaGreatDoorRtLawGrp
import Derived.Test.YtnlloaimplgjnaaGreatDoorHeldGrp
import Derived.Test.YtnlloaimplgjnaaGreatDoorSeg3Grp
import Derived.Test.YtnlloaimplgjnaaGreatDoorHexGrp
namespace Go.Proofs.YtnlloaimplgjnaaGreatDoor
open Go.RowKit
set_option linter.unusedVariables false
set_option linter.unusedSimpArgs false
/-- a request's value, its headers in the row A -/
def reqV (r:ReqL) (A:Option Addr) (n c:Nat):Value:=.agg #[.int .i64 r.at_,.string r.method,.string r.host,.string r.path,.string r.query,.string r.from_,.slice A n c,.string r.body]
/-- an error and a request handed back -/
def RNrm (q:Int×ReqL) (w:World) (e:Ending) (w':World):Prop:=∃ A n c,e= .returned (.tuple #[reqV q.2 A n c,.int .i64 q.1])∧HSl w' A n q.2.heads∧New w w'
theorem RNrm.fault {q:Int×ReqL} {w w':World} {x:Int} (h:q=(x,zReqL)) (hm:New w w'):RNrm q w (.returned (.tuple #[reqV zReqL none 0 0,.int .i64 x])) w':=
 ⟨none,0,0,by rw [h],by rw [h];exact Sl.nil,hm⟩
/-- the headers of a right request are tokens -/
theorem eachF_all {α:Type} (f:α→Int):∀(l b:List α),eachF (fun _ p=>f p) b l=0→∀ x∈l,f x=0
 | [],_,_,x,hx=>by cases hx
 | y::l,b,h,x,hx=>by
  rw [eachF]at h
  by_cases e:f y≠0
  ·rw [if_pos e]at h;exact absurd h e
  ·rw [if_neg e]at h
   rcases List.mem_cons.1 hx with rfl | hx
   ·simpa using e
   ·exact eachF_all f l _ h x hx
theorem heads_tok {ls:List PairD} (h:headsF ls=0):∀ p∈ls,isTok p.1=true:=by
 unfold headsF at h
 by_cases h1:50<ls.length
 ·rw [if_pos h1]at h;cases h
 ·rw [if_neg h1]at h
  intro p hp
  have:=eachF_all hdrF ls [] h p hp
  unfold hdrF at this
  cases ht:isTok p.1
  ·rw [ht]at this;simp at this
  ·rfl
/-- the parts of a right request -/
structure RightReq (r:ReqL):Prop where
 tok:isTok r.method=true
 host:hostForm r.host=true
 path:pathBad r.path.data.toList=0
 query:queryBad r.query.data.toList=0
 heads:headsF r.heads=0
theorem reqF_right {r:ReqL} (h:reqF r=0):RightReq r:=by
 unfold reqF at h
 cases h1:momentOk r.at_ <;> rw [h1]at h
 ·cases h
 simp only [Bool.not_true,Bool.false_eq_true,if_false]at h
 cases h2:isTok r.method <;> rw [h2]at h
 ·simp at h
 simp only [Bool.not_true,Bool.false_eq_true,if_false]at h
 cases h3:hostForm r.host <;> rw [h3]at h
 ·simp at h
 simp only [Bool.not_true,Bool.false_eq_true,if_false]at h
 by_cases h4:pathBad r.path.data.toList≠0
 ·rw [if_pos h4]at h;cases h
 rw [if_neg h4]at h
 by_cases h5:queryBad r.query.data.toList≠0
 ·rw [if_pos h5]at h;cases h
 rw [if_neg h5]at h
 cases h6:isFld r.from_ <;> rw [h6]at h
 ·simp at h
 simp only [Bool.not_true,Bool.false_eq_true,if_false]at h
 by_cases h7:headsF r.heads≠0
 ·rw [if_pos h7]at h;exact absurd h h7
 exact⟨h2,h3,by simpa using h4,by simpa using h5,by simpa using h7⟩
theorem decL_le {s o:List UInt8} (h:decL s=some o):o.length≤s.length:=decL_length _ _ _ (Nat.le_refl _) h
theorem pairQ_size {x:ByteArray} {p:PairD} (h:pairQ x=some p):p.1.size≤x.size∧p.2.size≤x.size:=by
 have hcl:=cutL_le 61 x.data.toList
 have hxl:x.data.toList.length=x.size:=rfl
 unfold pairQ cutE decP at h
 simp only at h
 cases h1:decL (plusL (cutL 61 x.data.toList).1)with
 | none=>rw [h1]at h;cases h
 | some a=>
  rw [h1]at h
  cases h2:decL (plusL (cutL 61 x.data.toList).2.1)with
  | none=>rw [h2]at h;cases h
  | some b=>
   rw [h2]at h
   simp only [Option.some.injEq]at h
   have k1:=decL_le h1
   have k2:=decL_le h2
   rw [plus_len]at k1 k2
   rw [← h]
   constructor
   ·show(List.toArray _).size≤_
    rw [List.size_toArray];omega
   ·show(List.toArray _).size≤_
    rw [List.size_toArray];omega
theorem pairsQ_size {Z:Nat}:∀(segs:List ByteArray) (l:List PairD),(∀ x∈segs,x.size≤Z)→pairsQ segs=some l→l.length≤segs.length∧∀ p∈l,p.1.size≤Z∧p.2.size≤Z
 | [],l,_,h=>by
  rw [pairsQ]at h
  injection h with h
  subst h
  exact⟨Nat.le_refl _,fun p hp=>by cases hp⟩
 | x::r,l,hz,h=>by
  rw [pairsQ]at h
  have hz2:=fun y hy=>hz y (List.mem_cons_of_mem x hy)
  by_cases e:x=⟨#[]⟩
  ·rw [if_pos e]at h
   obtain⟨h1,h2⟩:=pairsQ_size r l hz2 h
   exact⟨by simp;omega,h2⟩
  ·rw [if_neg e]at h
   cases hp:pairQ x with
   | none=>rw [hp]at h;cases h
   | some p=>
    rw [hp]at h
    simp only at h
    cases hr:pairsQ r with
    | none=>rw [hr]at h;cases h
    | some q=>
     rw [hr]at h
     simp only [Option.map_some,Option.some.injEq]at h
     subst h
     obtain⟨h1,h2⟩:=pairsQ_size r q hz2 hr
     have h3:=pairQ_size hp
     have h4:=hz x List.mem_cons_self
     refine⟨by simp;omega,fun y hy=>?_⟩
     rcases List.mem_cons.1 hy with rfl | hy
     ·omega
     ·exact h2 y hy
theorem queryOf_size (s:ByteArray):(queryOf s).2.length≤100∧∀ p∈(queryOf s).2,p.1.size≤s.size∧p.2.size≤s.size:=by
 unfold queryOf
 split
 ·exact⟨by simp,fun p hp=>by cases hp⟩
 ·cases h:pairsQ (pieces s ampB)with
  | none=>exact⟨by simp,fun p hp=>by cases hp⟩
  | some l=>
   simp only
   have:=pairsQ_size (pieces s ampB) l (fun x hx=>pieces_le hx) h
   split
   ·exact⟨by simp,fun p hp=>by cases hp⟩
   ·exact⟨by simp only;omega,this.2⟩
theorem sortQ_mem {l:List PairD} {p:PairD} (h:p∈sortQ l):p∈l:=by
 unfold sortQ at h
 have:=(List.mergeSort_perm (someQ l) leQ).mem_iff.1 h
 exact(List.mem_filter.1 this).1
/-- a header's name in small letters -/
def lowP (p:PairD):PairD:=(loS p.1,p.2)
theorem lowH_eq (l:List PairD):lowH l=l.map lowP:=rfl
/-- the first k names are in small letters -/
def lowTo (l:List PairD) (k:Nat):List PairD:=(l.take k).map lowP++l.drop k
theorem lowTo_zero (l:List PairD):lowTo l 0=l:=by simp [lowTo]
theorem lowTo_all (l:List PairD):lowTo l l.length=lowH l:=by simp [lowTo,lowH_eq]
theorem lowTo_len (l:List PairD) (k:Nat) (h:k≤l.length):(lowTo l k).length=l.length:=by simp [lowTo];omega
theorem lowTo_get {l:List PairD} {k:Nat} (h:k<l.length):(lowTo l k)[k]? =some l[k]:=by
 unfold lowTo
 have hl:((l.take k).map lowP).length=k:=by simp;omega
 rw [List.getElem?_append_right (by omega),hl,Nat.sub_self,List.getElem?_drop]
 simp [h]
theorem lowTo_set {l:List PairD} {k:Nat} (h:k<l.length):(lowTo l k).set k (lowP l[k])=lowTo l (k+1):=by
 unfold lowTo
 have hl:((l.take k).map lowP).length=k:=by simp;omega
 rw [List.set_append_right _ _ (by omega),hl,Nat.sub_self,List.take_succ_eq_append_getElem h,List.map_append,List.drop_eq_getElem_cons h,lsz]
 simp
theorem list_set_self {α:Type} {l:List α} {j:Nat} {v:α} (h:l[j]? =some v):l.set j v=l:=by
 apply List.ext_getElem?
 intro i
 by_cases e:j=i
 ·subst e
  rw [List.getElem?_set_self (by rcases Nat.lt_or_ge j l.length with q | q;exact q;rw [List.getElem?_eq_none q]at h;cases h),h]
 ·rw [List.getElem?_set_ne e]
/-- the first cell of an element of two stored -/
theorem Own.setQ0 {α:Type} {w:World} {B:Nat} {t:TypeId} {enc:α→Nat→Value} {n c g:Nat} {xs:List α} (h:Own w B t 2 enc (some ⟨g,0,none⟩) n c xs) {i:Nat} (hi:i<xs.length) (y:α) (hy:enc y 1=enc xs[i] 1):
  Own (w.setCell ⟨g,i * 2,none⟩ (enc y 0)) B t 2 enc (some ⟨g,0,none⟩) n c (xs.set i y):=by
 have h1:=flat_setQ enc y xs i hi
 have h2:((xs.flatMap (encL 2 enc)).set (i * 2) (enc y 0))[i * 2+1]? =some (enc y 1):=by
  rw [List.getElem?_set_ne (by omega),hy]
  exact flat_get 2 enc xs i hi 1 (by omega)
 rw [list_set_self h2]at h1
 exact⟨by simpa using h.1,by rw [← h1];exact(h.2.stored _ _).1⟩
/-- are all the bytes of l among cs? -/
def onlyB (cs l:List UInt8):Bool:=l.all fun c=>decide (0≤Lib.indexByte cs c)
set_option maxHeartbeats 1000000 in
theorem ref2_only (s cs:ByteArray) (w:World) (hs:s.size≤900000):
  Calls Tryz.prog 94 #[.string s,.string cs] w fun e w'=>e= .returned (.bool (onlyB cs.data.toList s.data.toList))∧w=w':=by
 go_enter Tryz.func94,Tryz.ntmps94
 go_wp2_with fail
 go_loop [8] (fun v=>∃ k:Nat,k≤s.size∧v= .int .i64 k∧Hid (onlyB cs.data.toList (s.data.toList.take k)=true)) (fun v=>s.size -(intOf v).toNat)
 case atStart=>exact⟨0,Nat.zero_le _,rfl,hId rfl⟩
 case round=>
  obtain⟨k,hk,rfl,HR⟩:=hrel
  by_cases hlt:k<s.size
  ·have hkl:k<s.data.toList.length:=hlt
   have hg:s.data.toList[k]=s[k]:=rfl
   have hix:=Tryz.strings_IndexByte cs (s[k].toNat:Int) w
   rw [byteBack]at hix
   have HT:Hid (onlyB cs.data.toList (s.data.toList.take (k+1))=decide (0≤Lib.indexByte cs.data.toList s[k])):=hId (by have:=HR.out;unfold onlyB at *;rw [all_take hkl,this,hg];rfl)
   have HF:Hid (decide (0≤Lib.indexByte cs.data.toList s[k])=false→onlyB cs.data.toList s.data.toList=false):=hId (fun h=>all_stop (p:=fun c=>decide (0≤Lib.indexByte cs.data.toList c)) hkl (by rw [hg];exact h))
   clear hg
   generalize Lib.indexByte cs.data.toList s[k]=r at *
   by_cases hb:(0:Int)≤r
   ·have HB:Hid (decide (0≤r)=true):=hId (by simpa using hb)
    have hb':¬ r<0:=by omega
    go_wp2_with (first |(refine hix.mono ?_;clear hix;rintro e w' ⟨rfl,hw⟩;rw [hw];clear hw))
    exact⟨⟨k+1,by omega,by go_num,hId (HT.out.trans HB.out)⟩,by simp [intOf];omega⟩
   ·have HB:Hid (decide (0≤r)=false):=hId (by simpa using hb)
    have hb':r<0:=by omega
    go_wp2_with (first |(refine hix.mono ?_;clear hix;rintro e w' ⟨rfl,hw⟩;rw [hw];clear hw))
    go_ret
    exact⟨ret_bool (HF.out HB.out).symm,rfl⟩
  ·obtain rfl:k=s.size:=by omega
   have hfull:s.data.toList.take s.size=s.data.toList:=List.take_length
   rw [hfull]at HR
   clear hfull
   go_wp2_with fail
   go_ret
   exact⟨ret_bool HR.out.symm,rfl⟩
def unitEnc (x:UInt8×Bool):Nat→Value
 | 0=>.int .u8 (x.1.toNat:Int)
 | _=>.bool x.2
theorem unitEnc_one (x:UInt8×Bool) (j:Nat) (hj:j<2):(unitEnc x j).oneCell'=true:=by
 match j,hj with
 | 0,_=>rfl
 | 1,_=>rfl
theorem einfo_unit:EInfo Tryz.prog 157 2 2:=EInfo.of (z:=.agg #[.int .u8 0,.bool false]) (by kernel_rfl) rfl (by decide)
abbrev USl (w:World) (A:Option Addr) (n:Nat) (us:List (UInt8×Bool)):Prop:=Sl w 157 2 unitEnc A n us
def RUnits (q:Option (List (UInt8×Bool))) (w:World) (e:Ending) (w':World):Prop:=∃ A n c,e= .returned (.tuple #[.slice A n c,.bool q.isSome])∧USl w' A n (q.getD [])∧New w w'∧n≤900000
theorem RUnits.none {q:Option (List (UInt8×Bool))} {w w':World} (h:q=none) (hm:New w w'):RUnits q w (.returned (.tuple #[.slice none 0 0,.bool false])) w':=
 ⟨.none,0,0,by rw [h];rfl,by rw [h];exact Sl.nil,hm,by omega⟩
def strLen:Value→Nat
 | .string b=>b.size
 | _=>0
/-- what has been read gives us; u is to be read -/
def UnitsTo (l:List UInt8) (u:List UInt8) (us:List (UInt8×Bool)):Prop:=unitsL l=(unitsL u).map (us++ ·)∧us.length+u.length≤l.length
theorem UnitsTo.start (l:List UInt8):UnitsTo l l []:=⟨by simp,by simp⟩
theorem UnitsTo.plain {l r:List UInt8} {a:UInt8} {us:List (UInt8×Bool)} (h:UnitsTo l (a::r) us) (ha:a≠37):UnitsTo l r (us++ [(a,true)]):=by
 refine⟨?_,by have:=h.2;simp at this ⊢;omega⟩
 rw [h.1,unitsL_plain ha]
 cases unitsL r <;> simp
theorem UnitsTo.unit {l r:List UInt8} {b c:UInt8} {us:List (UInt8×Bool)} (h:UnitsTo l (37::b::c::r) us) (hx:(isHexN b.toNat&&isHexN c.toNat)=true):UnitsTo l r (us++ [(unitV b c,false)]):=by
 refine⟨?_,by have:=h.2;simp at this ⊢;omega⟩
 rw [h.1,unitsL_unit hx]
 cases unitsL r <;> simp
theorem UnitsTo.bad {l r:List UInt8} {b c:UInt8} {us:List (UInt8×Bool)} (h:UnitsTo l (37::b::c::r) us) (hx:(isHexN b.toNat&&isHexN c.toNat)=false):unitsL l=none:=by
 rw [h.1,unitsL,if_pos rfl,hx];rfl
theorem UnitsTo.short {l u:List UInt8} {us:List (UInt8×Bool)} (h:UnitsTo l u us) (h1:u.length<3) (h0:0<u.length) (h2:u[0]=37):unitsL l=none:=by
 rw [h.1]
 match u,h1,h0,h2 with
 | [a],_,_,h2=>simp at h2;subst h2;simp [unitsL]
 | [a,b],_,_,h2=>simp at h2;subst h2;simp [unitsL]
theorem UnitsTo.done {l:List UInt8} {us:List (UInt8×Bool)} (h:UnitsTo l [] us):unitsL l=some us:=by
 rw [h.1];simp [unitsL]
theorem ext_tail (u:ByteArray) (i:Nat):(u.extract i u.size).data.toList=u.data.toList.drop i:=by
 rw [extract_data]
 have:u.data.toList.length=u.size:=rfl
 rw [List.take_of_length_le (by rw [List.length_drop];omega)]
set_option maxRecDepth 100000 in
set_option maxHeartbeats 1000000 in
theorem ref2_units (s:ByteArray) (w:World) (hs:s.size≤300000) (he:ErrSyn w):
  Calls Tryz.prog 123 #[.string s] w (RUnits (unitsL s.data.toList) w):=by
 have HE:=hId he
 clear he
 go_enter Tryz.func123,Tryz.ntmps123
 go_wp2_with fail
 go_loopw [0,4] (fun s' o wr=>∃(u:ByteArray) (n c:Nat) (A:Option Addr) (us:List (UInt8×Bool)),s'= .string u∧o= .slice A n c∧Hid (UnitsTo s.data.toList u.data.toList us)∧Hid (Own wr w.heap.size 157 2 unitEnc A n c us)∧Hid (New w wr)) (fun s' _ _=>strLen s')
 case atStart=>exact⟨s,0,0,none,[],rfl,rfl,hId (UnitsTo.start _),hId Own.nil,hId (Mod.refl _ _)⟩
 case round=>
  rename World=>wX
  obtain⟨u,n,c,A,us,rfl,rfl,HU,HO,HM⟩:=hrel
  have HOF:Hid (∀ g',blkOf A=some g'→w.heap.size≤g'):=hId (fun g' e=>HO.out.farS g' e)
  have hul:u.data.toList.length=u.size:=rfl
  have hnl:n≤300000:=by
   have h1:=HU.out.2
   have h2:=HO.out.1
   have h3:s.data.toList.length=s.size:=rfl
   omega
  have hu300:u.size≤300000:=by
   have h1:=HU.out.2
   have h3:s.data.toList.length=s.size:=rfl
   omega
  by_cases h0:u.size=0
  ·have hnil:u.data.toList= []:=List.eq_nil_of_length_eq_zero (by omega)
   have hst:u.toList.isEmpty=true:=by rw [ByteArray.toList_eq,hnil];rfl
   have HN:Hid (unitsL s.data.toList=some us):=hId (by have:=HU.out;rw [hnil]at this;exact this.done)
   clear hnil h0 hul
   go_wp2_with fail
   go_ret2
   exact⟨A,n,c,by rw [HN.out];rfl,by rw [HN.out];exact HO.out.sl,HM.out,by omega⟩
  ·have hpos:0<u.size:=by omega
   have hst:u.toList.isEmpty=false:=by
    rw [ByteArray.toList_eq]
    cases h:u.data.toList with
    | nil=>rw [h]at hul;simp at hul;omega
    | cons a r=>rfl
   have hpi:(0:Int)<(u.size:Int):=by omega
   have hp1:(1:Int)≤(u.size:Int):=by omega
   clear h0
   obtain⟨a,r,hur⟩:∃ a r,u.data.toList=a::r:=by
    cases h:u.data.toList with
    | nil=>rw [h]at hul;simp at hul;omega
    | cons a r=>exact⟨a,r,rfl⟩
   have hg0:u[0]'hpos=u.data.toList[0]'(by omega):=rfl
   have hu0:u[0]'hpos=a:=by rw [hg0];simp only [hur,lgz]
   have HUR:=hId hur
   clear hg0 hul hur
   by_cases ha:a=37
   ·have h37:((a.toNat:Int) != 37)=false:=by rw [ha];rfl
    have HA:=hId ha
    clear ha
    by_cases h3:u.size<3
    ·have h3':(u.size:Int)<3:=by omega
     have HN:Hid (unitsL s.data.toList=none):=hId (by
      have h1:=HUR.out
      have h2:u.data.toList.length=u.size:=rfl
      exact HU.out.short (by omega) (by omega) (by simp only [h1,lgz];exact HA.out))
     go_wp2_with fail
     go_ret2
     exact RUnits.none HN.out HM.out
    ·have h3':¬ (u.size:Int)<3:=by omega
     have hi3:(3:Int)≤(u.size:Int):=by omega
     obtain⟨b,c',r',hr⟩:∃ b c' r',r=b::c'::r':=by
      have h1:=HUR.out
      have h2:u.data.toList.length=u.size:=rfl
      match r,h1 with
      | [],h1=>rw [h1]at h2;simp at h2;omega
      | [x],h1=>rw [h1]at h2;simp at h2;omega
      | x::y::r',_=>exact⟨x,y,r',rfl⟩
     subst hr
     have HU37:Hid (UnitsTo s.data.toList (37::b::c'::r') us):=hId (by have:=HU.out;rw [HUR.out,HA.out]at this;exact this)
     have hd:(u.extract 1 3).data.toList= [b,c']:=by rw [extract_data,HUR.out];rfl
     have hz:(u.extract 1 3).size=2:=by simp only [ByteArray.size_extract];omega
     cases hx:(isHexN b.toNat&&isHexN c'.toNat)
     ·have HN:=hId (HU37.out.bad hx)
      have hp:=strconv_parseUint16_bad (u.extract 1 3) (by omega) (by omega) (by rw [hd];simpa using hx) wX (HE.out.new HM.out)
      clear hd hz hx
      go_wp2_with fail
      refine hp.mono ?_
      clear hp
      rintro e w2 ⟨⟨tt,p,rfl⟩,hm2⟩
      have HM2:=hId (HM.out.trans hm2)
      clear hm2
      go_wp2_with fail
      go_ret2
      exact RUnits.none HN.out HM2.out
     ·have HU1':=HU37.out.unit hx
      have hx2:=hx
      simp only [Bool.and_eq_true]at hx2
      have hp:=strconv_parseUint16_8 (u.extract 1 3) (by omega) (by omega) (by
       rw [hd];intro y hy;simp at hy;rcases hy with rfl | rfl
       ·exact hx2.1
       ·exact hx2.2) wX
      rw [hd]at hp
      have v1:=hexV_lt hx2.1
      have v2:=hexV_lt hx2.2
      have hv:hexNum [b,c']=(unitV b c').toNat:=by
       unfold unitV
       rw [UInt8.toNat_ofNat']
       simp [hexNum]
       omega
      rw [hv]at hp
      have hz256:=(unitV b c').toNat_lt
      have HU1:Hid (UnitsTo s.data.toList (u.extract 3 u.size).data.toList (us++ [(unitV b c',false)])):=hId (by rw [ext_tail,HUR.out];exact HU1')
      clear HU1' hx hx2 hd hz v1 v2 hv HU37
      generalize unitV b c'=z at *
      have hz0:(0:Int)≤(z.toNat:Int):=by omega
      have hz1:(z.toNat:Int)<256:=by omega
      have hw8:IntKind.u8.wrap (z.toNat:Int)=(z.toNat:Int):=by
       simp [IntKind.wrap,IntKind.signed,IntKind.bits]
       omega
      go_wp2_with fail
      refine hp.mono ?_
      clear hp
      rintro e w2 ⟨rfl,hm2⟩
      have HM2:Hid (New w w2):=hId (HM.out.trans hm2)
      have HO2:=hId (HO.out.new hm2)
      clear hm2 HM HO
      have HM:=HM2
      have HO:=HO2
      clear HM2 HO2
      go_upto_region 10 with fail
      have hBq:w.heap.size≤(w2.drew.alloc (.cells #[.int .u8 ((z).toNat:Int),.bool false] 157)).heap.size:=by have:=HM.out.size;simp;omega
      have hmA:New w2 (w2.drew.alloc (.cells #[.int .u8 ((z).toNat:Int),.bool false] 157)):=(Mod.refl _ _).drew.alloc _
      have HOA:=hId (HO.out.new hmA)
      have HMA:Hid (New w _):=hId (HM.out.trans hmA)
      have HBN:=hId (Blk.new w2.drew 157 #[.int .u8 ((z).toNat:Int),.bool false])
      clear hmA
      refine wp_region_held_ord (fun _=>True) [4,5] [0,1,2,3,6,7,4,5,8] (by kernel_rfl) (by kernel_rfl) (fun _ _ d _ _ h=>by cases d <;> exact h) ?_ (fun hHeld=>?_)
      ·exact trivial
      simp only [List.length_cons,List.length_nil,List.drop_succ_cons,List.drop_zero]
      refine heldO_take ?_ (by rfl) (by rfl) (by rfl) (fun w hSw=>?_) ?_
      rotate_left
      ·(try dsimp only at hSw);(try simp only [lgt,lgz,lgs]);go_simp;any_goals (with_reducible rfl)
      simp only [Act.put,lgt,lgz,lgs,lzt,lsz,lss]
      refine heldO_take ?_ (by rfl) (by rfl) (by rfl) (fun w hSw=>?_) ?_
      rotate_left
      ·(try dsimp only at hSw);(try simp only [lgt,lgz,lgs]);go_simp;any_goals (with_reducible rfl)
      simp only [Act.put,lgt,lgz,lgs,lzt,lsz,lss]
      refine heldO_take ?_ (by rfl) (by rfl) (by rfl) (fun w hSw=>?_) ?_
      rotate_left
      ·(try dsimp only at hSw);(try simp only [lgt,lgz,lgs]);go_simp;any_goals (with_reducible rfl)
      simp only [Act.put,lgt,lgz,lgs,lzt,lsz,lss]
      refine heldO_take ?_ (by rfl) (by rfl) (by rfl) (fun w hSw=>?_) ?_
      rotate_left
      ·(try dsimp only at hSw);(try simp only [lgt,lgz,lgs]);go_simp;any_goals (with_reducible rfl)
      simp only [Act.put,lgt,lgz,lgs,lzt,lsz,lss]
      refine heldO_take ?_ (by rfl) (by rfl) (by rfl) (fun w hSw=>?_) ?_
      rotate_left
      ·(try dsimp only at hSw);(try simp only [lgt,lgz,lgs]);go_simp;any_goals (with_reducible rfl)
      simp only [Act.put,lgt,lgz,lgs,lzt,lsz,lss]
      refine heldO_take ?_ (by rfl) (by rfl) (by rfl) (fun w hSw=>?_) ?_
      rotate_left
      ·(try dsimp only at hSw);(try simp only [lgt,lgz,lgs]);go_simp;any_goals (with_reducible rfl)
      simp only [Act.put,lgt,lgz,lgs,lzt,lsz,lss]
      refine heldO_step (by rfl) (by rfl) (by rfl) (fun K hK=>?_)
      go_simp
      refine hK.out _ _ trivial (fun _=>?_)
      clear hK K
      try simp only [Act.put,lzt,lsz,lss]
      refine heldO_step (by rfl) (by rfl) (by rfl) (fun K hK=>?_)
      refine wp_push (.tmp 31) (.tmp 35) _ rfl 2 Tryz.underlying153 einfo_unit rfl (by exact HOA.out) (z,false) w2.drew.heap.size rfl (by exact HBN.out) (fun j hj=>unitEnc_one _ j hj) (by omega) (by omega) hBq ?_
      intro g8 cap8 w8 own8 hm8 hat8 hlt8
      have HO8:=hId own8
      have HM8:Hid (New w w8):=hId (HMA.out.step hm8 (fun i hi e=>by have:=HOF.out i e;omega))
      clear own8 hm8
      refine hK.out _ _ trivial (fun _=>?_)
      clear hK K
      try simp only [Act.put,lzt,lsz,lss]
      refine heldO_take ?_ (by rfl) (by rfl) (by rfl) (fun w hSw=>?_) ?_
      rotate_left
      ·(try dsimp only at hSw);(try simp only [lgt,lgz,lgs]);go_simp;any_goals (with_reducible rfl)
      simp only [Act.put,lgt,lgz,lgs,lzt,lsz,lss]
      refine heldO_nil ?_
      clear HOA HMA HBN hBq HO HM
      go_wp2_with fail
      go_roundw
      case rel=>exact⟨_,n+1,cap8,some ⟨g8,0,none⟩,us++ [(z,false)],rfl,rfl,HU1,HO8,HM8⟩
      case measure=>simp only [strLen,ByteArray.size_extract];omega
   ·have h37:((a.toNat:Int) != 37)=true:=by
     simp only [bne_iff_ne,ne_eq]
     intro h
     exact ha (UInt8.toNat_inj.1 (by have:(37:UInt8).toNat=37:=rfl;omega))
    have HU1:Hid (UnitsTo s.data.toList (u.extract 1 u.size).data.toList (us++ [(a,true)])):=hId (by
     rw [ext_tail,HUR.out]
     have:=HU.out
     rw [HUR.out]at this
     exact this.plain ha)
    clear ha
    go_upto_region 4 with fail
    have hBq:w.heap.size≤(wX.drew.alloc (.cells #[.int .u8 ((a).toNat:Int),.bool true] 157)).heap.size:=by have:=HM.out.size;simp;omega
    have hmA:New wX (wX.drew.alloc (.cells #[.int .u8 ((a).toNat:Int),.bool true] 157)):=(Mod.refl _ _).drew.alloc _
    have HOA:=hId (HO.out.new hmA)
    have HMA:Hid (New w _):=hId (HM.out.trans hmA)
    have HBN:=hId (Blk.new wX.drew 157 #[.int .u8 ((a).toNat:Int),.bool true])
    clear hmA
    refine wp_region_held_ord (fun _=>True) [4,5] [0,1,2,3,6,7,4,5,8] (by kernel_rfl) (by kernel_rfl) (fun _ _ d _ _ h=>by cases d <;> exact h) ?_ (fun hHeld=>?_)
    ·exact trivial
    simp only [List.length_cons,List.length_nil,List.drop_succ_cons,List.drop_zero]
    refine heldO_take ?_ (by rfl) (by rfl) (by rfl) (fun w hSw=>?_) ?_
    rotate_left
    ·(try dsimp only at hSw);(try simp only [lgt,lgz,lgs]);go_simp;any_goals (with_reducible rfl)
    simp only [Act.put,lgt,lgz,lgs,lzt,lsz,lss]
    refine heldO_take ?_ (by rfl) (by rfl) (by rfl) (fun w hSw=>?_) ?_
    rotate_left
    ·(try dsimp only at hSw);(try simp only [lgt,lgz,lgs]);go_simp;any_goals (with_reducible rfl)
    simp only [Act.put,lgt,lgz,lgs,lzt,lsz,lss]
    refine heldO_take ?_ (by rfl) (by rfl) (by rfl) (fun w hSw=>?_) ?_
    rotate_left
    ·(try dsimp only at hSw);(try simp only [lgt,lgz,lgs]);go_simp;any_goals (with_reducible rfl)
    simp only [Act.put,lgt,lgz,lgs,lzt,lsz,lss]
    refine heldO_take ?_ (by rfl) (by rfl) (by rfl) (fun w hSw=>?_) ?_
    rotate_left
    ·(try dsimp only at hSw);(try simp only [lgt,lgz,lgs]);go_simp;any_goals (with_reducible rfl)
    simp only [Act.put,lgt,lgz,lgs,lzt,lsz,lss]
    refine heldO_take ?_ (by rfl) (by rfl) (by rfl) (fun w hSw=>?_) ?_
    rotate_left
    ·(try dsimp only at hSw);(try simp only [lgt,lgz,lgs]);go_simp;any_goals (with_reducible rfl)
    simp only [Act.put,lgt,lgz,lgs,lzt,lsz,lss]
    refine heldO_take ?_ (by rfl) (by rfl) (by rfl) (fun w hSw=>?_) ?_
    rotate_left
    ·(try dsimp only at hSw);(try simp only [lgt,lgz,lgs]);go_simp;any_goals (with_reducible rfl)
    simp only [Act.put,lgt,lgz,lgs,lzt,lsz,lss]
    refine heldO_step (by rfl) (by rfl) (by rfl) (fun K hK=>?_)
    go_simp
    refine hK.out _ _ trivial (fun _=>?_)
    clear hK K
    try simp only [Act.put,lzt,lsz,lss]
    refine heldO_step (by rfl) (by rfl) (by rfl) (fun K hK=>?_)
    refine wp_push (.tmp 12) (.tmp 16) _ rfl 2 Tryz.underlying153 einfo_unit rfl (by exact HOA.out) (a,true) wX.drew.heap.size rfl (by exact HBN.out) (fun j hj=>unitEnc_one _ j hj) (by omega) (by omega) hBq ?_
    intro g8 cap8 w8 own8 hm8 hat8 hlt8
    have HO8:=hId own8
    have HM8:Hid (New w w8):=hId (HMA.out.step hm8 (fun i hi e=>by have:=HOF.out i e;omega))
    clear own8 hm8
    refine hK.out _ _ trivial (fun _=>?_)
    clear hK K
    try simp only [Act.put,lzt,lsz,lss]
    refine heldO_take ?_ (by rfl) (by rfl) (by rfl) (fun w hSw=>?_) ?_
    rotate_left
    ·(try dsimp only at hSw);(try simp only [lgt,lgz,lgs]);go_simp;any_goals (with_reducible rfl)
    simp only [Act.put,lgt,lgz,lgs,lzt,lsz,lss]
    refine heldO_nil ?_
    clear HOA HMA HBN hBq HO HM
    go_wp2_with fail
    go_roundw
    case rel=>exact⟨_,n+1,cap8,some ⟨g8,0,none⟩,us++ [(a,true)],rfl,rfl,HU1,HO8,HM8⟩
    case measure=>simp only [strLen,ByteArray.size_extract];omega
theorem empty_beq (l:List UInt8):((⟨l.toArray⟩:ByteArray).toList == [])=decide (l= []):=by
 rw [ByteArray.toList_eq,Bool.eq_iff_iff];simp
theorem plainRow_ne {l:List UInt8} (h:0<l.length):plainRow l=(l.all (fun c=>isWrdN c.toNat)&&(isLetN l[0].toNat||decide (l[0].toNat=95))):=by
 cases l with
 | nil=>simp at h
 | cons a r=>exact plainRow_eq
set_option maxRecDepth 100000 in
set_option maxHeartbeats 2000000 in
theorem ref_plainRow (s:ByteArray) (w:World) (hs:s.size≤900000):
  Calls Tryz.prog 227 #[.string s] w fun e w'=>e= .returned (.bool (plainRow s.data.toList))∧New w w':=by
 by_cases h0:s.data.toList= []
 ·have h1:(s.toList == [])=true:=by rw [ByteArray.toList_eq,h0];rfl
  have HR:Hid (plainRow s.data.toList=false):=hId (by rw [h0];rfl)
  clear h0
  go_enter Tryz.func227,Tryz.ntmps227
  go_wp2_with fail
  go_ret
  exact⟨ret_bool HR.out.symm,Mod.refl _ _⟩
 ·have h1:(s.toList == [])=false:=by rw [ByteArray.toList_eq];simpa using h0
  have ht:=Tryz.strings_Trim_set s wrdsB w (by omega) (by decide) (asciiAll (by decide))
  have htb:=empty_beq (Lib.trimS s.data.toList wrdsB.data.toList)
  have htw:decide (Lib.trimS s.data.toList wrdsB.data.toList= [])=s.data.toList.all (fun c=>isWrdN c.toNat):=by
   rw [Bool.eq_iff_iff,decide_eq_true_eq];exact trim_word _
  rw [htw]at htb
  have hpos:0<s.size:=by
   rcases Nat.eq_zero_or_pos s.size with h | h
   ·exact absurd (List.eq_nil_of_length_eq_zero (show s.data.toList.length=0 from h)) h0
   ·exact h
  have HPR:Hid (plainRow s.data.toList=(s.data.toList.all (fun c=>isWrdN c.toNat)&&(isLetN s[0].toNat||decide (s[0].toNat=95)))):=hId (by
   have hg:s[0]=s.data.toList[0]'hpos:=rfl
   rw [hg]
   exact plainRow_ne hpos)
  have hi:=fun W=>Tryz.strings_IndexByte letsB (s[0].toNat:Int) W
  rw [byteBack]at hi
  have hla:=lets_at s[0]
  generalize (isLetN s[0].toNat||decide (s[0].toNat=95))=p1 at *
  generalize Lib.indexByte letsB.data.toList s[0]=r at *
  generalize (s.data.toList.all fun c=>isWrdN c.toNat)=p2 at *
  generalize plainRow s.data.toList=q at *
  generalize (⟨(Lib.trimS s.data.toList wrdsB.data.toList).toArray⟩:ByteArray)=T at *
  unfold wrdsB at ht
  unfold letsB at hi
  have HI:=hId hi
  clear hi h0 htw
  cases p2
  ·go_enter Tryz.func227,Tryz.ntmps227
   go_wp2_with (first |(refine ht.mono ?_;clear ht;rintro e w2 ⟨rfl,hm2⟩;have hm2:=hId hm2))
   go_ret
   exact⟨ret_bool HPR.out.symm,Mod.of_below hm2.out⟩
  ·have hr:p1=decide (0≤r):=hla.symm
   subst hr
   go_enter Tryz.func227,Tryz.ntmps227
   go_wp2_with (first |(refine ht.mono ?_;clear ht;rintro e w2 ⟨rfl,hm2⟩;have hm2:=hId hm2;have hi:=HI.out w2) |(refine hi.mono ?_;clear hi;rintro e w3 ⟨rfl,rfl⟩))
   all_goals go_ret
   all_goals exact⟨ret_bool (by rw [HPR.out];simp_all),Mod.of_below hm2.out⟩
set_option maxHeartbeats 2000000 in
theorem ref_word (s:ByteArray) (w:World) (hs:s.size≤900000):
  Calls Tryz.prog 177 #[.string s] w fun e w'=>e= .returned (.bool (isWord s.data.toList))∧New w w':=by
 have hp:=ref_plainRow s w hs
 have HW:Hid (isWord s.data.toList=(plainRow s.data.toList&&decide (s.size≤40)&& !Lib.containsS reserved s)):=hId (by unfold isWord;rw [mkList];rfl)
 have hct:=fun(W:World)=>Tryz.slices_Contains_string W.heap.size 0 6 6 reserved s (W.alloc (.cells (reserved.map Value.string).toArray 9)) (by decide) (by decide) (fun j hj=>reserved_at (Blk.new W 9 (reserved.map Value.string).toArray) j hj)
 rw [show reserved.take 6=reserved from rfl,show(reserved.map Value.string).toArray= #[.string ⟨#[110,117,108,108]⟩,.string ⟨#[116,114,117,101]⟩,.string ⟨#[102,97,108,115,101]⟩,.string ⟨#[105,110]⟩,.string ⟨#[101,97,99,104]⟩,.string ⟨#[119,104,101,114,101]⟩] from rfl]at hct
 have HCT:=hId hct
 clear hct
 generalize plainRow s.data.toList=p at *
 generalize isWord s.data.toList=r at *
 generalize Lib.containsS reserved s=q at *
 cases p
 ·go_enter Tryz.func177,Tryz.ntmps177
  go_wp2_with (first |(refine hp.mono ?_;clear hp;rintro e w2 ⟨rfl,hm2⟩;have hm2:=hId hm2))
  go_ret
  exact⟨ret_bool (by rw [HW.out];rfl),hm2.out⟩
 ·by_cases h40:s.size≤40
  ·have h40':(s.size:Int)≤40:=by omega
   rw [decide_eq_true h40]at HW
   go_enter Tryz.func177,Tryz.ntmps177
   go_wp2_with (first |(refine hp.mono ?_;clear hp;rintro e w2 ⟨rfl,hm2⟩;have hm2:=hId hm2;have hct:=HCT.out w2) |(refine hct.mono ?_;clear hct;rintro e w3 ⟨rfl,hw3⟩;rw [hw3];clear hw3))
   go_ret
   exact⟨ret_bool (by rw [HW.out];rfl),hm2.out.alloc _⟩
  ·have h40':¬ (s.size:Int)≤40:=by omega
   rw [decide_eq_false h40]at HW
   go_enter Tryz.func177,Tryz.ntmps177
   go_wp2_with (first |(refine hp.mono ?_;clear hp;rintro e w2 ⟨rfl,hm2⟩;have hm2:=hId hm2;have hct:=HCT.out w2))
   go_ret
   exact⟨ret_bool (by rw [HW.out];rfl),hm2.out⟩
/-- four hexadecimal digits at the head; -1: there are none -/
def hexAt (l:List UInt8):Int:=if l.length<4 then -1 else if (l.take 4).all (fun c=>isHexN c.toNat)=false then -1 else hexNum (l.take 4)
set_option maxRecDepth 100000 in
set_option maxHeartbeats 2000000 in
theorem ref_hex (s:ByteArray) (w:World) (hs:s.size≤900000):
  Calls Tryz.prog 178 #[.string s,.int .i64 0] w fun e w'=>e= .returned (.int .i64 (hexAt s.data.toList))∧New w w':=by
 have hlen:s.data.toList.length=s.size:=rfl
 by_cases h4:s.size<4
 ·have h4':(s.size:Int)<4:=by omega
  have HE:Hid (hexAt s.data.toList= -1):=hId (by unfold hexAt;rw [if_pos (by omega)])
  clear hlen h4
  go_enter Tryz.func178,Tryz.ntmps178
  go_wp2_with fail
  go_ret
  exact⟨ret_int HE.out.symm,Mod.refl _ _⟩
 ·have h4':¬ (s.size:Int)<4:=by omega
  have h4'':(4:Int)≤(s.size:Int):=by omega
  have hx4:(s.extract 0 4).data.toList=s.data.toList.take 4:=by rw [extract_data];simp
  have hsz:(s.extract 0 4).size=4:=by simp only [ByteArray.size_extract];omega
  have ht:=Tryz.strings_Trim_set (s.extract 0 4) hexsB w (by omega) (by decide) (asciiAll (by decide))
  rw [hx4]at ht
  have htb:=empty_beq (Lib.trimS (s.data.toList.take 4) hexsB.data.toList)
  have htw:decide (Lib.trimS (s.data.toList.take 4) hexsB.data.toList= [])=(s.data.toList.take 4).all (fun c=>isHexN c.toNat):=by
   rw [Bool.eq_iff_iff,decide_eq_true_eq];exact trim_hex _
  rw [htw]at htb
  have hE:hexAt s.data.toList=if (s.data.toList.take 4).all (fun c=>isHexN c.toNat)=false then -1 else(hexNum (s.data.toList.take 4):Int):=by unfold hexAt;rw [if_neg (by omega)]
  have hpi:(s.data.toList.take 4).all (fun c=>isHexN c.toNat)=true→∀ W,Calls Tryz.prog 228 #[.string (s.extract 0 4),.int .i64 16,.int .i64 32] W fun e w'=>e= .returned (.tuple #[.int .i64 (hexNum (s.data.toList.take 4)),.nilIface])∧New W w':=fun h W=>by
   have:=strconv_parseInt16 (s.extract 0 4) (by omega) (by omega) (by rw [hx4];exact List.all_eq_true.1 h) W
   rwa [hx4]at this
  generalize (⟨(Lib.trimS (s.data.toList.take 4) hexsB.data.toList).toArray⟩:ByteArray)=T at *
  generalize (hexNum (s.data.toList.take 4):Int)=z at *
  generalize (s.data.toList.take 4).all (fun c=>isHexN c.toNat)=p at *
  unfold hexsB at ht
  have HE:=hId hE
  clear hlen h4 hx4 hE htw
  cases p
  ·clear hpi
   go_enter Tryz.func178,Tryz.ntmps178
   go_wp2_with (first |(refine ht.mono ?_;clear ht;rintro e w2 ⟨rfl,hm2⟩;have hm2:=hId hm2))
   go_ret
   exact⟨ret_int (by rw [HE.out];rfl),Mod.of_below hm2.out⟩
  ·have HPI:=hId (hpi rfl)
   clear hpi
   go_enter Tryz.func178,Tryz.ntmps178
   go_wp2_with (first |(refine ht.mono ?_;clear ht;rintro e w2 ⟨rfl,hm2⟩;have hm2:=hId hm2;have hpi:=HPI.out w2) |(refine hpi.mono ?_;clear hpi;rintro e w3 ⟨rfl,hm3⟩;have hm3:=hId hm3))
   go_ret
   exact⟨ret_int (by rw [HE.out];rfl),Mod.trans (S:=fun _=>False) (Mod.of_below hm2.out) hm3.out⟩
end Go.Proofs.YtnlloaimplgjnaaGreatDoor
