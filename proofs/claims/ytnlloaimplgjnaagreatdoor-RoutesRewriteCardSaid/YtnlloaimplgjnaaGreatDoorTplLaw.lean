/- Templates, the plain law: words, segments and their units, the parts of a template, its text. No program in sight. No conditions. -/
import Derived.Test.YtnlloaimplgjnaaGreatDoorBase
import Derived.Lib.Strings
import Derived.Lib.SlicesS
namespace Go.Proofs.YtnlloaimplgjnaaGreatDoor
open Go.RowKit
set_option linter.unusedVariables false
set_option linter.unusedSimpArgs false
def isLetN (c:Nat):Bool:=(decide (97≤c)&&decide (c≤122))||(decide (65≤c)&&decide (c≤90))
def isDigN (c:Nat):Bool:=decide (48≤c)&&decide (c≤57)
def isHexN (c:Nat):Bool:=isDigN c||(decide (97≤c)&&decide (c≤102))||(decide (65≤c)&&decide (c≤70))
def isWrdN (c:Nat):Bool:=isLetN c||isDigN c||decide (c=95)
/-- what a hexadecimal digit stands for -/
def hexV (c:Nat):Nat:=if c≤57 then c -48 else if c≤70 then c -55 else c -87
def unitV (a b:UInt8):UInt8:=UInt8.ofNat (16 * hexV a.toNat+hexV b.toNat)
/-- letters, digits and _, no digit ahead -/
def plainRow (s:List UInt8):Bool:=decide (s≠[])&&s.all (fun c=>isWrdN c.toNat)&& !((s.head?.map fun c=>isDigN c.toNat).getD false)
def reserved:List ByteArray:=[⟨#[110,117,108,108]⟩,⟨#[116,114,117,101]⟩,⟨#[102,97,108,115,101]⟩,⟨#[105,110]⟩,⟨#[101,97,99,104]⟩,⟨#[119,104,101,114,101]⟩]
def isWord (s:List UInt8):Bool:=plainRow s&&decide (s.length≤40)&& !Lib.containsS reserved ⟨s.toArray⟩
/-- the bytes that a segment's units stand for -/
def decL:List UInt8→Option (List UInt8)
 | []=>some []
 | [a]=>if a=37 then none else some [a]
 | [a,b]=>if a=37 then none else(decL [b]).map (a:: ·)
 | a::b::c::r=>if a=37 then(if isHexN b.toNat&&isHexN c.toNat then(decL r).map (unitV b c:: ·) else none) else(decL (b::c::r)).map (a:: ·)
theorem decL_plain {a:UInt8} (h:a≠37) (r:List UInt8):decL (a::r)=(decL r).map (a:: ·):=by
 match r with
 | []=>simp [decL,h]
 | [b]=>simp only [decL];rw [if_neg h]
 | b::c::r=>simp only [decL];rw [if_neg h]
theorem decL_unit {b c:UInt8} (h:(isHexN b.toNat&&isHexN c.toNat)=true) (r:List UInt8):decL (37::b::c::r)=(decL r).map (unitV b c:: ·):=by
 rw [decL,if_pos rfl,if_pos h]
/-- do a % and two hexadecimal digits stand at place i? -/
def unitAt (s:List UInt8) (i:Nat):Bool:=decide (i+2<s.length)&&isHexN (s.getD (i+1) 0).toNat&&isHexN (s.getD (i+2) 0).toNat
theorem decL_at_plain {s:List UInt8} {i:Nat} (h:i<s.length) (h1:s[i]≠37):decL (s.drop i)=(decL (s.drop (i+1))).map (s[i]:: ·):=by
 rw [List.drop_eq_getElem_cons h,decL_plain h1]
theorem decL_at_unit {s:List UInt8} {i:Nat} (h:i<s.length) (h1:s[i]=37) (h2:unitAt s i=true):decL (s.drop i)=(decL (s.drop (i+3))).map (unitV (s.getD (i+1) 0) (s.getD (i+2) 0):: ·):=by
 simp only [unitAt,Bool.and_eq_true,decide_eq_true_eq]at h2
 obtain⟨⟨h3,h4⟩,h5⟩:=h2
 have e1:s.getD (i+1) 0=s[i+1]'(by omega):=by simp [List.getD_eq_getElem?_getD,List.getElem?_eq_getElem (show i+1<s.length by omega)]
 have e2:s.getD (i+2) 0=s[i+2]'(by omega):=by simp [List.getD_eq_getElem?_getD,List.getElem?_eq_getElem (show i+2<s.length by omega)]
 rw [e1]at h4 ⊢
 rw [e2]at h5 ⊢
 rw [List.drop_eq_getElem_cons h,List.drop_eq_getElem_cons (show i+1<s.length by omega),List.drop_eq_getElem_cons (show i+1+1<s.length by omega),h1,decL_unit (by rw [h4];exact h5)]
theorem decL_at_bad {s:List UInt8} {i:Nat} (h:i<s.length) (h1:s[i]=37) (h2:unitAt s i=false):decL (s.drop i)=none:=by
 rw [List.drop_eq_getElem_cons h,h1]
 match hr:s.drop (i+1)with
 | []=>simp [decL]
 | [b]=>simp [decL]
 | b::c::r=>
  have hl:(s.drop (i+1)).length=r.length+2:=by rw [hr];rfl
  have hl2:i+2<s.length:=by simp only [List.length_drop]at hl;omega
  have e1:s.getD (i+1) 0=b:=by
   have:(s.drop (i+1))[0]? =some b:=by rw [hr];rfl
   simp only [List.getElem?_drop,Nat.add_zero]at this
   simp [List.getD_eq_getElem?_getD,this]
  have e2:s.getD (i+2) 0=c:=by
   have:(s.drop (i+1))[1]? =some c:=by rw [hr];rfl
   simp only [List.getElem?_drop]at this
   simp [List.getD_eq_getElem?_getD,show i+2=i+1+1 from rfl,this]
  unfold unitAt at h2
  rw [e1,e2,decide_eq_true hl2]at h2
  rw [decL,if_pos rfl,if_neg (by rw [Bool.true_and]at h2;rw [h2];decide)]
theorem decL_length:∀(n:Nat) (s o:List UInt8),s.length≤n→decL s=some o→o.length≤s.length
 | _,[],o,_,h=>by simp [decL]at h;subst h;simp
 | 0,a::r,o,hn,h=>by simp at hn
 | n+1,a::r,o,hn,h=>by
  have hn':r.length≤n:=by simpa using hn
  by_cases e:a=37
  ·subst e
   match r,h,hn' with
   | [],h,_=>simp [decL]at h
   | [b],h,_=>simp [decL]at h
   | b::c::r,h,hn'=>
    rw [decL,if_pos rfl]at h
    split at h
    ·cases hd:decL r with
     | none=>rw [hd]at h;simp at h
     | some q=>
      rw [hd]at h
      simp only [Option.map_some,Option.some.injEq]at h
      subst h
      have:=decL_length n r q (by simp only [List.length_cons]at hn';omega) hd
      simp only [List.length_cons];omega
    ·cases h
  ·rw [decL_plain e]at h
   cases hd:decL r with
   | none=>rw [hd]at h;simp at h
   | some q=>
    rw [hd]at h
    simp only [Option.map_some,Option.some.injEq]at h
    subst h
    have:=decL_length n r q hn' hd
    simp only [List.length_cons];omega
/-- what stands in a segment as it is -/
def markL:List UInt8:=[33,36,38,39,40,41,42,43,44,59,61,58,64]
def freeN (c:Nat):Bool:=isLetN c||isDigN c||decide (c=45)||decide (c=46)||decide (c=95)||decide (c=126)
def openC (c:UInt8):Bool:=freeN c.toNat||markL.contains c
def upHex (n:Nat):UInt8:=UInt8.ofNat (if n<10 then 48+n else 55+n)
def segC (c:UInt8):List UInt8:=if openC c then [c] else [37,upHex (c.toNat / 16),upHex (c.toNat % 16)]
def segL (s:List UInt8):List UInt8:=s.flatMap segC
theorem segC_length (c:UInt8):(segC c).length≤3:=by unfold segC;split <;> simp
theorem segL_length (s:List UInt8):(segL s).length≤3 * s.length:=by
 unfold segL
 induction s with
 | nil=>simp
 | cons c s ih=>have:=segC_length c;simp only [List.flatMap_cons,List.length_append,List.length_cons];omega
theorem segL_take {s:List UInt8} {k:Nat} (h:k<s.length):segL (s.take (k+1))=segL (s.take k)++segC s[k]:=by
 unfold segL
 rw [List.take_succ_eq_append_getElem h,List.flatMap_append]
 simp
structure PartD where
 kind:Int
 name:ByteArray
def PartD.enc (p:PartD):Nat→Value
 | 0=>.int .i64 p.kind
 | _=>.string p.name
def hasP (l:List PartD) (n:ByteArray):Bool:=l.any fun p=>decide (p.kind≠1)&&decide (p.name=n)
def dotsL (s:List UInt8):Bool:=decide (s= [46])||decide (s= [46,46])
/-- is there a byte that may not stand in a segment of a template? -/
def badC (c:Nat):Bool:=decide (c<33)||decide (126<c)||decide (c=63)||decide (c=35)||decide (c=123)||decide (c=125)
/-- a segment of a template: its error, and the part that it is -/
def partOf (x:ByteArray) (before:List PartD) (last:Bool):Int×PartD:=
 if Lib.hasPrefix x.data.toList [123] then
  if !Lib.hasSuffix x.data.toList [125] then(9,⟨0,⟨#[]⟩⟩)
  else
   let y:=Lib.trimSuffix (x.data.toList.drop 1) [125]
   let n:=Lib.trimSuffix y [42]
   if !isWord n then(5,⟨0,⟨#[]⟩⟩)
   else if hasP before ⟨n.toArray⟩ then(6,⟨0,⟨#[]⟩⟩)
   else if Lib.hasSuffix y [42]&& !last then(7,⟨0,⟨#[]⟩⟩)
   else(0,⟨if Lib.hasSuffix y [42] then 3 else 2,⟨n.toArray⟩⟩)
 else if x.data.toList.any (fun c=>badC c.toNat) then(3,⟨0,⟨#[]⟩⟩)
 else match decL x.data.toList with
  | none=>(9,⟨0,⟨#[]⟩⟩)
  | some n=>if dotsL n then(5,⟨0,⟨#[]⟩⟩) else(0,⟨1,⟨n.toArray⟩⟩)
def partsOf:List ByteArray→List PartD→Int×List PartD
 | [],acc=>(0,acc)
 | x::xs,acc=>if (partOf x acc xs.isEmpty).1≠0 then((partOf x acc xs.isEmpty).1,[]) else partsOf xs (acc++ [(partOf x acc xs.isEmpty).2])
/-- a template, read from its segments: its error, and its parts -/
def templateOf (segs:List ByteArray):Int×List PartD:=
 if (partsOf segs []).1≠0 then((partsOf segs []).1,[]) else if (partsOf segs []).2.length > 30 then(2,[]) else(0,(partsOf segs []).2)
theorem partsOf_more {segs:List ByteArray} {k:Nat} (h:k<segs.length) (acc:List PartD):
  partsOf (segs.drop k) acc=if (partOf segs[k] acc (decide (k+1=segs.length))).1≠0 then((partOf segs[k] acc (decide (k+1=segs.length))).1,[]) else partsOf (segs.drop (k+1)) (acc++ [(partOf segs[k] acc (decide (k+1=segs.length))).2]):=by
 rw [List.drop_eq_getElem_cons h,partsOf]
 have:(segs.drop (k+1)).isEmpty=decide (k+1=segs.length):=by
  rw [Bool.eq_iff_iff,List.isEmpty_iff,List.drop_eq_nil_iff,decide_eq_true_eq]
  omega
 rw [this]
end Go.Proofs.YtnlloaimplgjnaaGreatDoor
