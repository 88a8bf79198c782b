/- Several texts in one. (1) Routes as data, the plain law: what is wrong with them, what they read as in text, what a text says. No program in sight. No conditions. (2) Values as trees, the plain law: how many, how deep, what is wrong, how two compare, how one is written. No program in sight. No conditions. (3) Requests and what routes make of them, the plain law: checks, the normal form, which route takes a request, rewriting and the way back. No program in sight. No conditions. (4) With which parameters a route takes a request, read off its parts and the request's segments. No program in sight. No conditions. (5) What the laws' walks share (XLaw without the limits; written by mktpln.py). No conditions. (6) Rows of strings, as cells. No conditions. (7) What the makers of templates hand out: strings of modest size (written by mktpln.py out of XTplM). Conditions: those of the stream. -/
import Derived.Test.YtnlloaimplgjnaaGreatDoorNumMGrp
import Derived.Test.YtnlloaimplgjnaaGreatDoorTpl3Grp
import Derived.Test.YtnlloaimplgjnaaGreatDoorBase
import Derived.Shelf.Small.Strs
import Derived.Lib.ValidU
import Derived.Lib.ItoaLen
import Derived.Lib.Small
import Derived.Test.YtnlloaimplgjnaaGreatDoorTpl2Grp
import Derived.Test.YtnlloaimplgjnaaGreatDoorMatLawGrp
namespace Go.Proofs.YtnlloaimplgjnaaGreatDoor
open Go.RowKit
set_option linter.unusedVariables false
set_option linter.unusedSimpArgs false
structure RtD where
 key:ByteArray
 hosts:List ByteArray
 path:ByteArray
 methods:List ByteArray
 needs:List (ByteArray×ByteArray)
 dest:ByteArray
/-- the first of a list that is wrong, each looked at with those ahead of it -/
def eachF {α:Type} (f:List α→α→Int):List α→List α→Int
 | _,[]=>0
 | b,x::r=>if f b x≠0 then f b x else eachF f (b++ [x]) r
theorem eachF_step {α:Type} (f:List α→α→Int) {l:List α} {k:Nat} (h:k<l.length):eachF f (l.take k) (l.drop k)=if f (l.take k) l[k]≠0 then f (l.take k) l[k] else eachF f (l.take (k+1)) (l.drop (k+1)):=by
 rw [List.drop_eq_getElem_cons h,eachF,List.take_succ_eq_append_getElem h]
theorem eachF_end {α:Type} (f:List α→α→Int) (l:List α):eachF f (l.take l.length) (l.drop l.length)=0:=by
 rw [List.drop_length,eachF]
/-- a host, or *. and one -/
def starOff (h:ByteArray):ByteArray:=⟨(Lib.trimPrefix h.data.toList [42,46]).toArray⟩
def hostPat (h:ByteArray):Bool:=hostForm (starOff h)&&decide (hostN (starOff h).data.toList=(starOff h).data.toList)
def hostF (b:List ByteArray) (h:ByteArray):Int:=if !hostPat h then 3 else if Lib.containsS b h then 6 else 0
def hostsF (l:List ByteArray):Int:=if 20<l.length then 2 else eachF hostF [] l
def methodF (b:List ByteArray) (m:ByteArray):Int:=if !(isTok m&&noLow m.data.toList) then 5 else if Lib.containsS b m then 6 else 0
def methodsF (l:List ByteArray):Int:=if 20<l.length then 2 else eachF methodF [] l
def hasPair (b:List (ByteArray×ByteArray)) (p:ByteArray×ByteArray):Bool:=b.any fun q=>decide (q.1=p.1)&&decide (q.2=p.2)
def needF (b:List (ByteArray×ByteArray)) (p:ByteArray×ByteArray):Int:=if !(isTok p.1&&noUp p.1.data.toList) then 5 else if !isFld p.2 then 3 else if hasPair b p then 6 else 0
def needsF (l:List (ByteArray×ByteArray)):Int:=if 20<l.length then 2 else eachF needF [] l
/-- a parameter of To that is of another kind in Path -/
def otherK (P:List PartD) (p:PartD):Bool:=P.any fun q=>decide (q.kind≠1)&&(decide (q.name=p.name)&&decide (q.kind≠p.kind))
def toF (P T:List PartD):Int:=if T.any (fun p=>decide (p.kind≠1)&& !hasP P p.name) then 8 else if T.any (fun p=>decide (p.kind≠1)&&otherK P p) then 10 else 0
def routeF (r:RtD):Int:=
 if !isKey r.key then 5 else if hostsF r.hosts≠0 then hostsF r.hosts else if (tplOf r.path).1≠0 then(tplOf r.path).1 else
 if methodsF r.methods≠0 then methodsF r.methods else if needsF r.needs≠0 then needsF r.needs else
 if r.dest=⟨#[]⟩ then 0 else if (tplOf r.dest).1≠0 then(tplOf r.dest).1 else toF (tplOf r.path).2 (tplOf r.dest).2
structure RdS where
 out:List RtD
 kind:Nat
section
variable {σ:Type} {step:σ→ByteArray→Option σ}
end
inductive VT where
 | mk (kind:Int) (flag:Bool) (num:Int) (words:ByteArray) (list:List VT) (mem:List (ByteArray×VT))
namespace VT
def kind:VT→Int | mk a _ _ _ _ _=>a
def flag:VT→Bool | mk _ a _ _ _ _=>a
def num:VT→Int | mk _ _ a _ _ _=>a
def words:VT→ByteArray | mk _ _ _ a _ _=>a
def list:VT→List VT | mk _ _ _ _ a _=>a
def mem:VT→List (ByteArray×VT) | mk _ _ _ _ _ a=>a
end VT
/-- the first that is not nought -/
def fz:List Int→Int
 | []=>0
 | x::xs=>if x≠0 then x else fz xs
def vMany:Nat→VT→Nat
 | 0,_=>0
 | d+1,v=>1+((v.list.map (vMany d)).sum+(v.mem.map fun p=>vMany d p.2).sum)
def maxL:List Nat→Nat
 | []=>0
 | x::xs=>max x (maxL xs)
def vDeep:Nat→VT→Nat
 | 0,_=>0
 | d+1,v=>1+max (maxL (v.list.map (vDeep d))) (maxL (v.mem.map fun p=>vDeep d p.2))
/-- what a text's length does not pass -/
def vW:Nat→VT→Nat
 | 0,_=>0
 | d+1,v=>40+6 * v.words.size+((v.list.map fun x=>vW d x+1).sum+(v.mem.map fun p=>vW d p.2+(6 * p.1.size+4)).sum)
/-- rows no longer than m, words of modest size -/
def Wide (m:Nat):Nat→VT→Prop
 | 0,_=>True
 | d+1,v=>v.list.length≤m∧v.mem.length≤m∧v.words.size≤1000000∧(∀ x∈v.list,Wide m d x)∧(∀ p∈v.mem,p.1.size≤1000000∧Wide m d p.2)
theorem Wide.mono {m m':Nat} (h:m≤m'):∀(d:Nat) (v:VT),Wide m d v→Wide m' d v
 | 0,_,_=>trivial
 | d+1,v,⟨h1,h2,h3,h4,h5⟩=>⟨by omega,by omega,h3,fun x hx=>Wide.mono h d x (h4 x hx),fun p hp=>⟨(h5 p hp).1,Wide.mono h d p.2 (h5 p hp).2⟩⟩
/-- a value that the walks can carry -/
def Fit (d:Nat) (v:VT):Prop:=vW d v≤1000000000∧Wide 200000 d v
theorem Fit.parts {d:Nat} {v:VT} (h:Fit (d+1) v):v.list.length≤200000∧v.mem.length≤200000∧v.words.size≤1000000:=⟨h.2.1,h.2.2.1,h.2.2.2.1⟩
/-- the error of a value's number and size -/
def vBig (d:Nat) (v:VT):Prop:=5000<vMany d v∨50<vDeep d v
instance (d:Nat) (v:VT):Decidable (vBig d v):=by unfold vBig;infer_instance
def cmpB (a b:ByteArray):Int:=Lib.compareBytes a.data.toList b.data.toList
/-- a digit to the base of sixteen -/
def hexD (n:Nat):UInt8:=(#[48,49,50,51,52,53,54,55,56,57,97,98,99,100,101,102]:Array UInt8).getD n 0
def qc (c:UInt8):List UInt8:=
 if c=34∨c=92 then [92,c] else if c=10 then [92,110] else if c=13 then [92,114] else if c=9 then [92,116] else
 if c.toNat<32∨c=127 then [92,117,48,48,hexD (c.toNat / 16),hexD (c.toNat % 16)] else [c]
/-- a request as data -/
structure ReqL where
 at_:Int
 method:ByteArray
 host:ByteArray
 path:ByteArray
 query:ByteArray
 from_:ByteArray
 heads:List PairD
 body:ByteArray
def zReqL:ReqL:=⟨0,⟨#[]⟩,⟨#[]⟩,⟨#[]⟩,⟨#[]⟩,⟨#[]⟩,[],⟨#[]⟩⟩
def momentOk (n:Int):Bool:=decide (0≤n)&&decide (n<345686400000)
/-- what is wrong with headers -/
def hdrF (p:PairD):Int:=if !isTok p.1 then 5 else if !isFld p.2 then 3 else 0
def headsF (l:List PairD):Int:=if 50<l.length then 2 else eachF (fun _ p=>hdrF p) [] l
/-- what is wrong with a request -/
def reqF (r:ReqL):Int:=
 if !momentOk r.at_ then 1 else if !isTok r.method then 5 else
 if !hostForm r.host then 3 else if pathBad r.path.data.toList≠0 then 3 else if queryBad r.query.data.toList≠0 then 3 else if !isFld r.from_ then 3 else
 if headsF r.heads≠0 then headsF r.heads else if 20000<r.body.size then 2 else 0
/-- pairs in order, by name, then by value -/
def cmpQ (a b:PairD):Int:=if a.1=b.1 then cmpB a.2 b.2 else cmpB a.1 b.1
def leQ (a b:PairD):Bool:=decide (cmpQ a b≤0)
def someQ (l:List PairD):List PairD:=l.filter fun p=>!emptyP p
def sortQ (l:List PairD):List PairD:=(someQ l).mergeSort leQ
def loS (s:ByteArray):ByteArray:=⟨(Lib.toLowerA s.data.toList).toArray⟩
def upS (s:ByteArray):ByteArray:=⟨(Lib.toUpperA s.data.toList).toArray⟩
def lowH (l:List PairD):List PairD:=l.map fun p=>(loS p.1,p.2)
/-- a request in its normal form: the error, the request -/
def normOf (r:ReqL):Int×ReqL:=
 if reqF r≠0 then(reqF r,zReqL) else if (pathN r.path).1≠0 then((pathN r.path).1,zReqL) else
 if (queryOf r.query).1≠0 then((queryOf r.query).1,zReqL) else
 if (queryT (sortQ (queryOf r.query).2)).1≠0 then((queryT (sortQ (queryOf r.query).2)).1,zReqL) else
 (0,{r with method:=upS r.method,host:=⟨(hostN r.host.data.toList).toArray⟩,path:=⟨(pathN r.path).2.toArray⟩,query:=⟨(queryT (sortQ (queryOf r.query).2)).2.toArray⟩,heads:=lowH r.heads})
/-- how a route's hosts suit a host -/
def starH (h:ByteArray):Bool:=Lib.hasPrefix h.data.toList [42]
def restH (h:ByteArray):List UInt8:=Lib.trimPrefix h.data.toList [42]
def exactH (host h:ByteArray):Bool:=!starH h&&decide (h=host)
def starM (host h:ByteArray):Bool:=starH h&&Lib.hasSuffix host.data.toList (restH h)
def longH (host:ByteArray):List ByteArray→Nat→Nat
 | [],m=>m
 | h::r,m=>longH host r (if starM host h&&decide (m<h.size) then h.size else m)
/-- rank, length: 2 exact, 1 a star, 0 any or none -/
def rankH (hosts:List ByteArray) (host:ByteArray):Nat×Nat×Bool:=
 if hosts= [] then(0,0,true) else if hosts.any (exactH host) then(2,0,true) else
 if longH host hosts 0=0 then(0,0,false) else(1,longH host hosts 0,true)
def rankN (hosts:List ByteArray) (host:ByteArray):Nat:=
 if hosts= [] then 1 else if hosts.any (exactH host) then 1048576 else if longH host hosts 0=0 then 0 else 1+longH host hosts 0
/-- the headers that a route needs are there -/
def meetH (heads:List PairD) (n:PairD):Bool:=heads.any fun h=>decide (h.1=n.1)&&(decide (n.2=⟨#[42]⟩)||decide (h.2=n.2))
def meetsF (needs heads:List PairD):Bool:=needs.all (meetH heads)
def methOk (r:RtD) (m:ByteArray):Bool:=decide (r.methods= [])||Lib.containsS r.methods m
/-- the parameters with which a route takes a normal request, whatever its method -/
def butOf (r:RtD) (q:ReqL):Option (List PairD):=
 if (rankH r.hosts q.host).2.2&&meetsF r.needs q.heads&&(matchOf r.path q.path).2.1 then some (matchOf r.path q.path).1 else none
def hitOf (r:RtD) (q:ReqL):Option (List PairD):=if methOk r q.method then butOf r q else none
/-- a request as it is sent on -/
def sentOf (r:RtD) (q:ReqL):Int×ReqL:=
 match hitOf r q with
 | none=>(8,zReqL)
 | some l=>if r.dest=⟨#[]⟩ then(0,q) else if (buildOf r.dest l).1≠0 then((buildOf r.dest l).1,zReqL) else(0,{q with path:=⟨(buildOf r.dest l).2.toArray⟩})
def rewriteOf (r:RtD) (q:ReqL):Int×ReqL:=
 if routeF r≠0 then(routeF r,zReqL) else if (normOf q).1≠0 then((normOf q).1,zReqL) else sentOf r (normOf q).2
/-- the way back of a right route -/
def backOf (r:RtD) (path:ByteArray):Int×List UInt8:=
 if (segsOf path).1≠0 then((segsOf path).1,[]) else
 match matchL (if r.dest=⟨#[]⟩ then(tplOf r.path).2 else(tplOf r.dest).2) (segsOf path).2 []with
 | none=>(8,[])
 | some l=>if r.dest=⟨#[]⟩ then(0,(pathN path).2) else
  if (tplOf r.path).2.any (fun p=>decide (p.kind≠1)&& !hasP (tplOf r.dest).2 p.name) then(8,[]) else buildOf r.path l
theorem butOf_bad {r:RtD} {q:ReqL} (h:(segsOf q.path).1≠0):butOf r q=none:=by
 have e:(matchOf r.path q.path).2.1=false:=by
  unfold matchOf
  by_cases h0:(tplOf r.path).1≠0
  ·rw [if_pos h0]
  ·rw [if_neg h0,if_pos h]
 unfold butOf
 rw [e,Bool.and_false]
 rfl
theorem butOf_right {r:RtD} {q:ReqL} (ht:(tplOf r.path).1=0) (h:(segsOf q.path).1=0):
  butOf r q=if (rankH r.hosts q.host).2.2&&meetsF r.needs q.heads then matchL (tplOf r.path).2 (segsOf q.path).2 [] else none:=by
 have e:matchOf r.path q.path=match matchL (tplOf r.path).2 (segsOf q.path).2 []with
  | none=>([],false,0)
  | some l=>(l,true,0):=by
  unfold matchOf
  rw [if_neg (by simp [ht]),if_neg (by simp [h])]
  cases matchL (tplOf r.path).2 (segsOf q.path).2 [] <;> rfl
 unfold butOf
 rw [e]
 generalize matchL (tplOf r.path).2 (segsOf q.path).2 []=M
 generalize ((rankH r.hosts q.host).2.2&&meetsF r.needs q.heads)=b
 cases M <;> cases b <;> rfl
/-- a slice of ints that came in and can be read -/
def InInts (w:World) (A:Option Addr) (n:Nat):Prop:=
 n≤maxLen∧(0<n→∃ g o,A=some ⟨g,o,none⟩∧g<w.heap.size∧∃ z:Nat→Int,∀ i,i<n→w.cell? ⟨g,o+i,none⟩=some (.int .i64 (z i))∧I64 (z i))
theorem SInv.start {w:World} {A:Option Addr} {n c:Nat} (h:InInts w A n):SInv w.heap.size (w.alloc (.cells #[.slice A n c,.int .i64 0] 25)) 0:=by
 rcases Nat.eq_zero_or_pos n with rfl | hn
 ·exact⟨A,0,c,0,fun _=>0,Blk.new _ _ _,by omega,by unfold maxLen;omega,fun h=>absurd h (by omega)⟩
 ·obtain⟨g,o,hA,hg,z,hz⟩:=h.2 hn
  refine⟨A,n,c,0,z,Blk.new _ _ _,by omega,h.1,fun _=>⟨g,o,hA,hg,fun i hi=>⟨?_,(hz i hi).2⟩⟩⟩
  rw [← (hz i hi).1]
  exact World.cell?_alloc_lt w _ _ hg
/-- what the stream does is nothing to the caller's memory -/
theorem SStep.news {w w':World} {o:Obj} {k:Nat} (h:SStep w.heap.size (w.alloc o) w' k):New w w':=
 ((Mod.refl (fun _=>False) w).alloc o).step h.only (fun i hi e=>by omega)
theorem SStep.mod {S:Nat→Prop} {b k:Nat} {w w' w'':World} (h:SStep b w w' k) (hm:Mod S w' w'') (hS:∀ i,S i→w.heap.size≤i):SStep b w w'' k:=
 ⟨h.lt,h.only.step hm (fun i hi e=>by have:=hS i e;omega),h.inv.mod hm (fun i hi e=>by have:=hS i e;have:=h.lt;omega)⟩
theorem Own.far {α:Type} {w:World} {B:Nat} {t:TypeId} {sz:Nat} {enc:α→Nat→Value} {A:Option Addr} {n c:Nat} {xs:List α} (h:Own w B t sz enc A n c xs):∀ i,blkOf A=some i→B≤i∧i<w.heap.size:=by
 intro i e
 rcases h.blk with⟨rfl,_⟩ |⟨g,rfl,hB,ht⟩
 ·cases e
 ·injection e with e;subst e;exact⟨hB,ht.lt⟩
def sEnc (x:ByteArray) (_:Nat):Value:=.string x
theorem sEnc_one (x:ByteArray) (j:Nat) (hj:j<1):(sEnc x j).oneCell'=true:=rfl
theorem einfo_str:EInfo Tryz.prog 9 1 16:=EInfo.of (z:=.string ⟨#[]⟩) (by kernel_rfl) rfl (by decide)
theorem lens_le (Z:Nat):∀ xs:List (List UInt8),(∀ x∈xs,x.length≤Z)→Lib.lens xs≤xs.length * Z
 | [],_=>by simp [Lib.lens]
 | a::xs,h=>by
  have h1:=h a (by simp)
  have h2:=lens_le Z xs (fun x hx=>h x (by simp [hx]))
  simp only [Lib.lens,List.map_cons,List.sum_cons,List.length_cons,Nat.succ_mul]at *
  omega
theorem join_le (sep:List UInt8) (Z:Nat) (xs:List (List UInt8)) (h:∀ x∈xs,x.length≤Z):(Lib.join xs sep).length≤xs.length * (Z+sep.length):=by
 cases xs with
 | nil=>simp [Lib.join]
 | cons x r=>
  have h1:=lens_le Z (x::r) h
  rw [Lib.join_length]
  simp only [List.length_cons]at *
  have h2:(r.length+1) * (Z+sep.length)=(r.length+1) * Z+(r.length+1) * sep.length:=Nat.mul_add _ _ _
  have h3:sep.length * r.length=r.length * sep.length:=Nat.mul_comm _ _
  have h4:(r.length+1) * sep.length=r.length * sep.length+sep.length:=Nat.succ_mul _ _
  omega
theorem Own.farS {α:Type} {w:World} {B:Nat} {t:TypeId} {sz:Nat} {enc:α→Nat→Value} {A:Option Addr} {n c:Nat} {xs:List α} (h:Own w B t sz enc A n c xs) (g:Nat) (e:blkOf A=some g):B≤g:=by
 rcases h.blk with⟨rfl,_,_⟩ |⟨g',rfl,hB,_⟩
 ·cases e
 ·injection e with e;subst e;exact hB
set_option maxRecDepth 100000 in
set_option maxHeartbeats 2000000 in
theorem words_any (xs:List ByteArray) (Z b k g n m:Nat) (sep:ByteArray) (w:World) (hs:SInv b w k) (hk:k<4611686018427000000) (hx:Blk w g 9 (xs.map Value.string).toArray) (hn:xs.length=n) (hn0:0<n) (hn1:n<1000) (hm:m≤200) (hZ:∀ x∈xs,x.size≤Z) (hZ2:Z≤1000) (hsep:sep.size≤10):
  Calls Tryz.prog 22 #[.pointer (some ⟨b,0,none⟩),.int .i64 (m:Int),.string sep,.slice (some ⟨g,0,none⟩) n n] w (RStr fun s w'=>s.size≤m * (Z+sep.size)∧SStep b w w' (k+m)):=by
 have hgb:g≠b:=by
  obtain⟨A,l,c,q,z,hb,_⟩:=hs
  exact hx.ne hb (by decide)
 have hbl:=hs.lt
 have hgl:=hx.lt
 have HX:=hId hx
 have HZ:=hId hZ
 have T0:=hId (SStep.refl hs)
 clear hx hZ hs
 go_enter Tryz.func22,Tryz.ntmps22
 go_wp2_with fail
 go_loopw [9,11] (fun o i wr=>∃(j c:Nat) (A:Option Addr) (ys:List ByteArray),j≤m∧i= .int .i64 j∧o= .slice A j c∧Hid (Own wr w.heap.size 9 1 sEnc A j c ys)∧Hid (∀ y∈ys,y.size≤Z)∧Hid (SStep b w wr (k+j))∧Hid (Blk wr g 9 (xs.map Value.string).toArray)) (fun _ i _=>m -(intOf i).toNat)
 case atStart=>exact⟨0,0,none,[],Nat.zero_le _,rfl,rfl,hId Own.nil,hId (by simp),T0,HX⟩
 case round=>
  clear T0 HX
  rename World=>wr
  obtain⟨j,c,A,ys,hj,rfl,rfl,HO,HY,T,HX⟩:=hrel
  by_cases hlt:j<m
  ·have hsm:=some_any xs b (k+j) g n wr T.out.inv (by omega) HX.out hn hn0 hn1
   have HOF:Hid (∀ g',blkOf A=some g'→w.heap.size≤g'):=hId (fun g' e=>HO.out.farS g' e)
   go_wp2_with fail
   refine hsm.mono ?_
   clear hsm
   rintro e w2 ⟨s,rfl,hsx,h2⟩
   have hso:=h2.only.size
   have HO2:=hId (HO.out.mod h2.only (fun g' e e2=>by have:=HOF.out g' e;omega))
   have T2:=hId (T.out.trans h2)
   have HX2:=hId (HX.out.mod h2.only hgb)
   have HSZ:=hId (HZ.out s hsx)
   have hwz:=T.out.only.size
   clear h2 HO T HX
   go_wp2_with (at_builtin;refine wpList_push rfl _ _ _ rfl 16 Tryz.underlying26 einfo_str rfl (HO2.out.alloc _) s w2.heap.size rfl (Blk.new _ _ _) (fun j hj=>sEnc_one _ j hj) (by omega) (by omega) (by simp;omega) ?_;intro g8 cap8 w8 own8 hm8 hat8 hlt8)
   have HO8:=hId own8
   have T8:=hId ((((T2.out.alloc (.cells #[.string s] 9))).mod hm8 (fun i e=>HOF.out i e)).more (show k+j+1≤k+(j+1)by omega))
   have HX8:=hId ((HX2.out.mod ((Mod.refl (fun _=>False) _).alloc (.cells #[.string s] 9)) (fun e=>e)).mod hm8 (fun e=>by have:=HOF.out g e;omega))
   clear own8 hm8
   go_roundw
   case rel=>exact⟨j+1,cap8,some ⟨g8,0,none⟩,ys++ [s],by omega,by go_num,rfl,HO8,hId (fun y hy=>by
    rcases List.mem_append.1 hy with h | h
    ·exact HY.out y h
    ·simp at h;subst h;exact HSZ.out),T8,HX8⟩
   case measure=>simp [intOf];omega
  ·obtain rfl:j=m:=by omega
   have hyl:=HO.out.1
   by_cases h0:j=0
   ·subst h0
    have hj0:=Tryz.strings_Join_none A c sep wr
    go_wp2_with (first |(refine hj0.mono ?_;clear hj0;rintro e w3 ⟨rfl,hw⟩;rw [hw];clear hw))
    go_ret
    exact⟨⟨#[]⟩,rfl,Nat.zero_le _,T.out⟩
   ·rcases HO.out.blk with⟨_,h1,_⟩ |⟨g',rfl,hB,htb⟩
    ·exact absurd h1 h0
    ·obtain⟨g2,o2,hA,htb2,hc⟩:=HO.out.sl.2 (by omega)
     injection hA with hA
     injection hA with e1 e2 e3
     subst e1 e2
     have hle:(Lib.join (ys.map (·.data.toList)) sep.data.toList).length≤j * (Z+sep.size):=by
      have:=join_le sep.data.toList Z (ys.map (·.data.toList)) (fun x hx=>by
       obtain⟨y,hy,rfl⟩:=List.mem_map.1 hx
       exact HY.out y hy)
      rw [List.length_map,hyl]at this
      exact this
     have hmul:j * (Z+sep.size)≤200 * 1010:=Nat.mul_le_mul (by omega) (by omega)
     have hcap:j≤c:=by
      obtain⟨_,_,_,_,h5,_⟩:=HO.out.form (by omega)
      exact h5
     have hjn:=Tryz.strings_Join g' 0 c ys sep wr (fun i x hx=>by
      have hi:i<ys.length:=by
       rcases Nat.lt_or_ge i ys.length with h | h
       ·exact h
       ·rw [List.getElem?_eq_none h]at hx;cases hx
      rw [List.getElem?_eq_getElem hi]at hx
      injection hx with hx
      subst hx
      have:=hc i hi 0 (by decide)
      rw [show 0+i * 1+0=0+i by omega]at this
      exact this) htb.lt (by omega) (by omega) (by omega)
     rw [hyl]at hjn
     have HLE:Hid ((⟨(Lib.join (ys.map (·.data.toList)) sep.data.toList).toArray⟩:ByteArray).size≤j * (Z+sep.size)):=hId (by show(List.toArray _).size≤_;simpa using hle)
     generalize (⟨(Lib.join (ys.map (·.data.toList)) sep.data.toList).toArray⟩:ByteArray)=U at *
     clear hle hmul hc htb htb2
     go_wp2_with (first |(refine hjn.mono ?_;clear hjn;rintro e w3 ⟨rfl,hm3⟩;have hm3:=hId hm3))
     go_ret
     exact⟨U,rfl,HLE.out,T.out.new (Mod.of_below hm3.out)⟩
set_option maxRecDepth 100000 in
set_option maxHeartbeats 2000000 in
theorem template_any (b k:Nat) (w:World) (hs:SInv b w k) (hk:k<4611686018426000000):
  Calls Tryz.prog 20 #[.pointer (some ⟨b,0,none⟩)] w (RStr fun m w'=>m.size≤200∧SStep b w w' (k+10)):=by
 have hbl:=hs.lt
 go_enter Tryz.func20,Tryz.ntmps20
 go_wp2_with fail
 refine(flip_any b k 10 w hs (by omega) (by omega) (by omega)).mono ?_
 rintro e w1 ⟨q,rfl,h1⟩
 cases q
 ·go_wp2_with fail
  refine(range_any b _ 0 2 w1 h1.inv (by omega) (by omega) (by omega) (by omega)).mono ?_
  rintro e w2 ⟨m,rfl,m0,m1,h2⟩
  obtain⟨m,rfl⟩:=Int.eq_ofNat_of_zero_le m0
  have T2:=h1.trans h2
  clear h1 h2
  go_wp2_with fail
  refine(words_any [⟨#[97]⟩,⟨#[98]⟩,⟨#[123,105,100,125]⟩,⟨#[123,105,100,125]⟩,⟨#[123,120,125]⟩,⟨#[]⟩] 4 b _ w2.heap.size 6 m ⟨#[47]⟩ _ (T2.alloc _).inv (by omega) (Blk.new _ _ _) rfl (by omega) (by omega) (by omega) (by decide) (by omega) (by decide)).mono ?_
  rintro e w3 ⟨s,rfl,hs3,h3⟩
  have T3:=(T2.alloc _).trans h3
  have hs3':s.size≤10:=by
   have e:(⟨#[47]⟩:ByteArray).size=1:=rfl
   have:m * (4+(⟨#[47]⟩:ByteArray).size)≤2 * 5:=Nat.mul_le_mul (by omega) (by omega)
   omega
  clear h3 T2 hs3
  have e1:(⟨#[47]⟩:ByteArray).size=1:=rfl
  have ha1:¬ 9223372036854775807<(⟨#[47]⟩:ByteArray).size+s.size:=by omega
  go_wp2_with fail
  refine(some_any [⟨#[]⟩,⟨#[]⟩,⟨#[]⟩,⟨#[47,123,114,101,115,116,42,125]⟩] b _ w3.heap.size 4 _ (T3.alloc _).inv (by omega) (Blk.new _ _ _) rfl (by omega) (by omega)).mono ?_
  rintro e w4 ⟨t,rfl,ht,h4⟩
  have htz:t.size≤8:=by
   simp only [List.mem_cons,List.not_mem_nil,or_false]at ht
   rcases ht with rfl | rfl | rfl | rfl <;> decide
  have T4:=(T3.alloc _).trans h4
  clear h4 T3 ht
  have ha2:¬ 9223372036854775807<((⟨#[47]⟩:ByteArray)++s).size+t.size:=by rw [ByteArray.size_append];omega
  go_wp2_with fail
  go_ret
  exact⟨_,rfl,by rw [ByteArray.size_append,ByteArray.size_append];omega,T4.more (by omega)⟩
 ·have hr:=Tryz.strings_Repeat ⟨#[97,47]⟩ 30 w1 (by decide) (by decide)
  have hrz:(⟨(Lib.repeatL (⟨#[97,47]⟩:ByteArray).data.toList 30).toArray⟩:ByteArray).size=60:=by decide +kernel
  generalize (⟨(Lib.repeatL (⟨#[97,47]⟩:ByteArray).data.toList 30).toArray⟩:ByteArray)=R at *
  have e1:(⟨#[47]⟩:ByteArray).size=1:=rfl
  have ha1:¬ 9223372036854775807<(⟨#[47]⟩:ByteArray).size+R.size:=by omega
  go_wp2_with fail
  refine hr.mono ?_
  clear hr
  rintro e w2 ⟨rfl,hm2⟩
  have T2:=h1.new (Mod.of_below hm2)
  clear h1 hm2
  have hz:((⟨#[47]⟩:ByteArray)++R).size≤100:=by rw [ByteArray.size_append];omega
  go_wp2_with fail
  generalize (⟨#[47]⟩:ByteArray)++R=U at *
  refine(some_any [⟨#[]⟩,⟨#[97]⟩,⟨#[47,123,105,100]⟩,⟨#[47,123,49,125]⟩,⟨#[47,123,97,125,47,123,97,125]⟩,⟨#[47,123,97,42,125,47,98]⟩,⟨#[47,97,63]⟩,⟨#[47,37,50]⟩,⟨#[47,37,122,122]⟩,⟨#[47,46,46]⟩,⟨#[47,37,50,101]⟩,⟨#[47,123,125]⟩,⟨#[47,123,42,125]⟩,⟨#[47,97,123,98]⟩,⟨#[47,97,125]⟩,⟨#[47,123,105,110,125]⟩,⟨#[47,123,97,42,42,125]⟩,⟨#[47,47]⟩,⟨#[47,97,37,50,70,98]⟩,U,⟨#[47,97,32,98]⟩,⟨#[47,123,97,125,120]⟩] b _ w2.heap.size 22 _ (T2.alloc _).inv (by omega) (Blk.new _ _ _) rfl (by omega) (by omega)).mono ?_
  rintro e w4 ⟨t,rfl,ht,h4⟩
  have htz:t.size≤100:=by
   simp only [List.mem_cons,List.not_mem_nil,or_false]at ht
   rcases ht with rfl | rfl | rfl | rfl | rfl | rfl | rfl | rfl | rfl | rfl | rfl | rfl | rfl | rfl | rfl | rfl | rfl | rfl | rfl | rfl | rfl | rfl
   all_goals first | exact hz | decide
  have T4:=(T2.alloc _).trans h4
  clear h4 ht hz
  go_wp2_with fail
  go_ret
  exact⟨_,rfl,by omega,T4.more (by omega)⟩
end Go.Proofs.YtnlloaimplgjnaaGreatDoor
