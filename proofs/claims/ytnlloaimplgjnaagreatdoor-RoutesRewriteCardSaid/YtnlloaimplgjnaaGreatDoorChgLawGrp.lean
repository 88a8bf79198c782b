/- Several texts in one. (1) Changes of values, the plain law: steps, paths, changes, what a change makes of a value, in the program's words and in the reference's. No program in sight. No conditions. (2) The order of pairs, the plain law: what sorting leaves is one list. No program in sight. No conditions. (3) slices.SortFunc at api.Pair: the row that it leaves reads as the sorted list (off the kit's own contract). Printed by mksort.py. No conditions. (4) Two lists side by side. No conditions. (5) Routes in memory. No conditions. (6) The program's check of a route's hosts and methods. Conditions: at most 200000 texts of modest size; the library's variable on searching is an int. (7) A region in a named order with guarded operations: those that are wanted, and those that are passed over. No conditions beside the region's own form. -/
import Derived.Test.YtnlloaimplgjnaaGreatDoorRtLawGrp
import Derived.Sort.Statements
import Derived.Test.YtnlloaimplgjnaaGreatDoorPairGrp
import Derived.Test.YtnlloaimplgjnaaGreatDoorNormGrp
import Derived.Test.YtnlloaimplgjnaaGreatDoorShelf
import Derived.Shelf.SlSortCmp.InsertionK
import Derived.Test.YtnlloaimplgjnaaGreatDoorBase
import Derived.Test.YtnlloaimplgjnaaGreatDoorHdrFGrp
import Derived.Test.YtnlloaimplgjnaaGreatDoorHeldGrp
namespace Go.Proofs.YtnlloaimplgjnaaGreatDoor
open Go.RowKit
set_option linter.unusedVariables false
set_option linter.unusedSimpArgs false
/-- a step as its cells say -/
structure St where
 named:Bool
 name:ByteArray
 at_:Int
structure ChD where
 kind:Int
 path:List St
 val:VT
/-! the order of strings -/
theorem cb_zero:∀ a b:List UInt8,Lib.compareBytes a b=0↔a=b
 | [],[]=>by simp [Lib.compareBytes]
 | [],_::_=>by simp [Lib.compareBytes]
 | _::_,[]=>by simp [Lib.compareBytes]
 | a::xs,b::ys=>by
  unfold Lib.compareBytes
  split
  ·rename_i h
   have:a≠b:=fun e=>by subst e;exact absurd h (UInt8.lt_irrefl _)
   simp [this]
  ·split
   ·rename_i h1 h
    have:a≠b:=fun e=>by subst e;exact absurd h (UInt8.lt_irrefl _)
    simp [this]
   ·rename_i h1 h2
    have:a=b:=by
     have h3:¬ a.toNat<b.toNat:=h1
     have h4:¬ b.toNat<a.toNat:=h2
     exact UInt8.toNat_inj.1 (by omega)
    rw [cb_zero xs ys]
    simp [this]
theorem cb_swap:∀ a b:List UInt8,Lib.compareBytes b a= -Lib.compareBytes a b
 | [],[]=>by simp [Lib.compareBytes]
 | [],_::_=>by simp [Lib.compareBytes]
 | _::_,[]=>by simp [Lib.compareBytes]
 | a::xs,b::ys=>by
  unfold Lib.compareBytes
  rw [cb_swap xs ys]
  by_cases h1:a<b
  ·have:¬ b<a:=by
    have h3:a.toNat<b.toNat:=h1
    intro h;have h4:b.toNat<a.toNat:=h;omega
   simp [h1,this]
  ·by_cases h2:b<a
   ·simp [h1,h2]
   ·simp [h1,h2]
theorem cb_trans:∀ a b c:List UInt8,Lib.compareBytes a b<0→Lib.compareBytes b c<0→Lib.compareBytes a c<0
 | [],[],_=>fun h=>by simp [Lib.compareBytes]at h
 | [],_::_,[]=>fun _ h=>by simp [Lib.compareBytes]at h
 | [],_::_,_::_=>fun _ _=>by simp [Lib.compareBytes]
 | _::_,[],_=>fun h=>by simp [Lib.compareBytes]at h
 | _::_,_::_,[]=>fun _ h=>by simp [Lib.compareBytes]at h
 | a::xs,b::ys,c::zs=>by
  intro h1 h2
  unfold Lib.compareBytes at h1 h2 ⊢
  have key:∀ x y:UInt8,(x<y)=(x.toNat<y.toNat):=fun _ _=>rfl
  simp only [key]at h1 h2 ⊢
  by_cases e1:a.toNat<b.toNat
  ·by_cases e2:b.toNat<c.toNat
   ·rw [if_pos (by omega)];omega
   ·rw [if_neg e2]at h2
    by_cases e3:c.toNat<b.toNat
    ·rw [if_pos e3]at h2;omega
    ·rw [if_pos (by omega)];omega
  ·rw [if_neg e1]at h1
   by_cases e3:b.toNat<a.toNat
   ·rw [if_pos e3]at h1;omega
   ·rw [if_neg e3]at h1
    by_cases e2:b.toNat<c.toNat
    ·rw [if_pos (by omega)];omega
    ·rw [if_neg e2]at h2
     by_cases e4:c.toNat<b.toNat
     ·rw [if_pos e4]at h2;omega
     ·rw [if_neg e4]at h2
      rw [if_neg (by omega),if_neg (by omega)]
      exact cb_trans xs ys zs h1 h2
theorem ba_ext {a b:ByteArray} (h:a.data.toList=b.data.toList):a=b:=by
 cases a;cases b;congr;exact Array.toList_inj.1 h
theorem cmpB_zero (a b:ByteArray):cmpB a b=0↔a=b:=by
 unfold cmpB
 rw [cb_zero]
 exact⟨ba_ext,fun e=>by rw [e]⟩
theorem cmpB_swap (a b:ByteArray):cmpB b a= -cmpB a b:=cb_swap _ _
theorem cmpB_trans {a b c:ByteArray} (h1:cmpB a b<0) (h2:cmpB b c<0):cmpB a c<0:=cb_trans _ _ _ h1 h2
theorem cmpB_self (a:ByteArray):cmpB a a=0:=(cmpB_zero a a).2 rfl
/-! names in order -/
abbrev Mem:=ByteArray×VT
/-- how many names stand ahead of a name -/
def place:List Mem→ByteArray→Nat
 | [],_=>0
 | p::l,s=>if cmpB p.1 s<0 then place l s+1 else 0
/-! one change -/
end Go.Proofs.YtnlloaimplgjnaaGreatDoor
namespace Go.Proofs.YtnlloaimplgjnaaGreatDoor
open Go.RowKit Go.Sort
set_option linter.unusedVariables false
set_option linter.unusedSimpArgs false
theorem cmpQ_swap (a b:PairD):cmpQ b a= -cmpQ a b:=by
 unfold cmpQ
 by_cases h:a.1=b.1
 ·rw [if_pos h,if_pos h.symm,cmpB_swap]
 ·rw [if_neg h,if_neg (fun e=>h e.symm),cmpB_swap]
theorem cmpQ_zero (a b:PairD):cmpQ a b=0↔a=b:=by
 unfold cmpQ
 by_cases h:a.1=b.1
 ·rw [if_pos h,cmpB_zero]
  exact⟨fun e=>Prod.ext h e,fun e=>by rw [e]⟩
 ·rw [if_neg h,cmpB_zero]
  exact⟨fun e=>absurd e h,fun e=>by rw [e]⟩
theorem cmpQ_trans {a b c:PairD} (h1:cmpQ a b<0) (h2:cmpQ b c<0):cmpQ a c<0:=by
 unfold cmpQ at *
 by_cases e1:a.1=b.1
 ·rw [if_pos e1]at h1
  by_cases e2:b.1=c.1
  ·rw [if_pos e2]at h2
   rw [if_pos (e1.trans e2)]
   exact cmpB_trans h1 h2
  ·rw [if_neg e2]at h2
   rw [if_neg (by rw [e1];exact e2),e1]
   exact h2
 ·rw [if_neg e1]at h1
  by_cases e2:b.1=c.1
  ·rw [if_neg (by rw [← e2];exact e1),←e2]
   exact h1
  ·rw [if_neg e2]at h2
   have h3:=cmpB_trans h1 h2
   rw [if_neg (fun e=>by rw [e,cmpB_self]at h3;omega)]
   exact h3
theorem swo_pair:SWO (ltOf cmpQ) where
 irrefl x:=by simp [ltOf,(cmpQ_zero x x).2 rfl]
 trans x y z h1 h2:=by
  simp only [ltOf,decide_eq_true_eq]at *
  exact cmpQ_trans h1 h2
 ntrans x y z h1 h2:=by
  simp only [ltOf,decide_eq_false_iff_not]at *
  intro h3
  by_cases e:cmpQ z y<0
  ·exact h1 (cmpQ_trans h3 e)
  ·have h4:cmpQ y z=0:=by
    have:=cmpQ_swap y z
    omega
   have h5:=(cmpQ_zero _ _).1 h4
   rw [← h5]at h3
   exact h1 h3
theorem leQ_trans (a b c:PairD) (h1:leQ a b=true) (h2:leQ b c=true):leQ a c=true:=by
 unfold leQ at *
 simp only [decide_eq_true_eq]at *
 by_cases e1:cmpQ a b=0
 ·rw [(cmpQ_zero _ _).1 e1];exact h2
 ·by_cases e2:cmpQ b c=0
  ·rw [← (cmpQ_zero _ _).1 e2];exact h1
  ·have:=cmpQ_trans (a:=a) (b:=b) (c:=c) (by omega) (by omega)
   omega
theorem leQ_total (a b:PairD):(leQ a b||leQ b a)=true:=by
 unfold leQ
 have:=cmpQ_swap a b
 simp only [Bool.or_eq_true,decide_eq_true_eq]
 omega
/-- whatever is sorted and has the same pairs is the one sorted list -/
theorem sorted_pairs {l d:List PairD} (hp:d.Perm l) (hs:d.Pairwise fun a b=>¬ cmpQ b a<0):d=l.mergeSort leQ:=by
 refine List.Perm.eq_of_pairwise (le:=fun a b=>¬ cmpQ b a<0) (fun a b _ _ h1 h2=>?_) hs ?_ (hp.trans (List.mergeSort_perm l leQ).symm)
 ·have:=cmpQ_swap a b
  exact(cmpQ_zero _ _).1 (by omega)
 ·have h:=List.pairwise_mergeSort leQ_trans leQ_total l
  refine h.imp (fun {a b} q=>?_)
  unfold leQ at q
  simp only [decide_eq_true_eq]at q
  have:=cmpQ_swap a b
  omega
end Go.Proofs.YtnlloaimplgjnaaGreatDoor
namespace Go.Proofs.YtnlloaimplgjnaaGreatDoor
open Go.RowKit Go.Shelf Go.Sort
set_option linter.unusedVariables false
set_option linter.unusedSimpArgs false
abbrev cellsQ (m:PairD):List Value:=encL 2 pairEnc m
theorem cellsQ_get (m:PairD) (j:Nat) (hj:j<2):(cellsQ m)[j]! =pairEnc m j:=by
 have:j<(cellsQ m).length:=by rw [encL_length];exact hj
 rw [getElem!_pos (cellsQ m) j this]
 simp [encL]
instance inhPairD:Inhabited PairD:=⟨(⟨#[]⟩,⟨#[]⟩)⟩
theorem flatKQ_eq (d:Array PairD):(flatK cellsQ 2 d).toList=d.toList.flatMap (encL 2 pairEnc):=by
 apply List.ext_getElem
 ·rw [flat_length];simp
 ·intro t h1 h2
  have ht:t<d.size * 2:=by simpa using h1
  have hi:t / 2<d.size:=by omega
  have e1:(flatK cellsQ 2 d)[t]! =(cellsQ d[t / 2]!)[t % 2]!:=get_flatK cellsQ 2 d t ht
  rw [getElem!_pos _ _ (by simpa using ht),cellsQ_get _ _ (by omega)]at e1
  have e2:=flat_get 2 pairEnc d.toList (t / 2) (by simpa using hi) (t % 2) (by omega)
  rw [show t / 2 * 2+t % 2=t by omega,List.getElem?_eq_getElem h2]at e2
  injection e2 with e2
  rw [e2,Array.getElem_toList,e1]
  simp [hi]
theorem holdsKQ_own {w:World} {B g n c:Nat} {xs:List PairD} (h:Own w B 52 2 pairEnc (some ⟨g,0,none⟩) n c xs):HoldsK cellsQ 2 w g 0 xs.toArray:=by
 intro t ht
 have ht2:t<xs.length * 2:=by simpa using ht
 have hi:t / 2<xs.length:=by omega
 obtain⟨g',o,hA,htb,hc⟩:=h.sl.2 (by have:=h.1;omega)
 injection hA with hA
 injection hA with hA1 hA2
 subst hA1 hA2
 refine⟨?_,h.frozen _⟩
 have h1:=hc (t / 2) hi (t % 2) (by omega)
 rw [show 0+t / 2 * 2+t % 2=0+t by omega]at h1
 rw [h1,get_flatK cellsQ 2 _ t (by simpa using ht2),cellsQ_get _ _ (by omega)]
 simp [hi]
theorem ownQ_putRowK {w:World} {B g n c q:Nat} {xs ys:List PairD} {F:Array Value} (h:Own w B 52 2 pairEnc (some ⟨g,0,none⟩) n c xs) (hy:ys.length=n) (hF:F.toList=ys.flatMap (encL 2 pairEnc)):
  Own (putRow id (Sort.ahead w q) g 0 F) B 52 2 pairEnc (some ⟨g,0,none⟩) n c ys∧Only g w (putRow id (Sort.ahead w q) g 0 F):=by
 obtain⟨cur,hb,hB,hn,hc,hs,ht⟩:=h.row
 have hFs:F.size=n * 2:=by
  have:F.toList.length=n * 2:=by rw [hF,flat_length,hy]
  simpa using this
 have hle:n * 2≤c * 2:=Nat.mul_le_mul_right 2 hn
 unfold Blk at hb
 constructor
 ·refine Own.of_row (cur:=putCells id 0 F cur) ?_ hB hn hc (by simpa [putCells]using hs) hy ?_
  ·show(putRow id (Sort.ahead w q) g 0 F).heap[g]? =_
   simp [putRow,mapBlock,Sort.ahead,Array.getElem?_modify,hb,onCells]
  ·rw [← hF]
   apply List.ext_getElem?
   intro j
   rw [List.getElem?_take,Array.getElem?_toList,Array.getElem?_toList]
   by_cases hj:j<n * 2
   ·have hjc:j<cur.size:=by omega
    rw [if_pos hj]
    simp only [putCells,Array.getElem?_mapIdx,Array.getElem?_eq_getElem hjc,Option.map_some]
    rw [if_pos (by omega)]
    simp [hFs,hj]
   ·rw [if_neg hj,Array.getElem?_eq_none (by omega)]
 ·refine⟨rfl,rfl,rfl,by simp [putRow,mapBlock,Sort.ahead],fun k hk hne=>?_⟩
  simp [putRow,mapBlock,Sort.ahead,Array.getElem?_modify,show ¬ g=k from fun e=>hne e.symm]
theorem ownQ_sorted {w:World} {B g n c q:Nat} {os:Array Obj} {xs ys:List PairD} (d:Array PairD) (h:Own w B 52 2 pairEnc (some ⟨g,0,none⟩) n c xs) (hd:d.toList=ys) (hy:ys.length=n):
  Own (sortWorldK cellsQ 2 w g 0 q d os) B 52 2 pairEnc (some ⟨g,0,none⟩) n c ys∧Only g w (sortWorldK cellsQ 2 w g 0 q d os):=by
 obtain⟨h1,h2⟩:=ownQ_putRowK (q:=q) h hy (F:=flatK cellsQ 2 d) (by rw [flatKQ_eq,hd])
 have hg:New (putRowK cellsQ 2 (Sort.ahead w q) g 0 d) (grow (putRowK cellsQ 2 (Sort.ahead w q) g 0 d) os):=⟨rfl,rfl,rfl,by simp [grow],fun k hk _=>heap_grow_old _ _ hk⟩
 exact⟨h1.new hg,h2.trans (hg.mono (fun _ _ e=>e.elim))⟩
/-- two lists side by side -/
def Al {α β:Type} (T:α→β→Prop):List α→List β→Prop
 | [],[]=>True
 | x::xs,y::ys=>T x y∧Al T xs ys
 | _,_=>False
section
variable {α β:Type} {T T':α→β→Prop}
theorem Al.len:∀ {xs:List α} {ys:List β},Al T xs ys→xs.length=ys.length
 | [],[],_=>rfl
 | x::xs,y::ys,h=>by simp [Al.len h.2]
 | [],_::_,h=>h.elim
 | _::_,[],h=>h.elim
theorem Al.imp (hT:∀ x y,T x y→T' x y):∀ {xs:List α} {ys:List β},Al T xs ys→Al T' xs ys
 | [],[],_=>trivial
 | x::xs,y::ys,h=>⟨hT _ _ h.1,Al.imp hT h.2⟩
 | [],_::_,h=>h.elim
 | _::_,[],h=>h.elim
theorem Al.take:∀(k:Nat) {xs:List α} {ys:List β},Al T xs ys→Al T (xs.take k) (ys.take k)
 | 0,_,_,_=>by simp [Al]
 | k+1,[],[],_=>trivial
 | k+1,x::xs,y::ys,h=>⟨h.1,Al.take k h.2⟩
 | k+1,[],_::_,h=>h.elim
 | k+1,_::_,[],h=>h.elim
theorem Al.drop:∀(k:Nat) {xs:List α} {ys:List β},Al T xs ys→Al T (xs.drop k) (ys.drop k)
 | 0,_,_,h=>h
 | k+1,[],[],_=>trivial
 | k+1,x::xs,y::ys,h=>by
  rw [List.drop_succ_cons,List.drop_succ_cons]
  exact Al.drop k h.2
 | k+1,[],_::_,h=>h.elim
 | k+1,_::_,[],h=>h.elim
theorem Al.append:∀ {xs:List α} {ys:List β} {xs':List α} {ys':List β},Al T xs ys→Al T xs' ys'→Al T (xs++xs') (ys++ys')
 | [],[],_,_,_,h=>h
 | x::xs,y::ys,_,_,h,h'=>⟨h.1,Al.append h.2 h'⟩
 | [],_::_,_,_,h,_=>h.elim
 | _::_,[],_,_,h,_=>h.elim
theorem Al.one {x:α} {y:β} (h:T x y):Al T [x] [y]:=⟨h,trivial⟩
theorem Al.cut {xs:List α} {ys:List β} (h:Al T xs ys) (k:Nat):Al T (xs.eraseIdx k) (ys.take k++ys.drop (k+1)):=by
 rw [List.eraseIdx_eq_take_drop_succ]
 exact(h.take k).append (h.drop (k+1))
theorem Al.set:∀ {xs:List α} {ys:List β},Al T xs ys→∀(k:Nat) {x:α} {y:β},T x y→Al T (xs.set k x) (ys.set k y)
 | [],[],_,_,_,_,_=>trivial
 | x::xs,y::ys,h,0,_,_,hx=>⟨hx,h.2⟩
 | x::xs,y::ys,h,k+1,_,_,hx=>⟨h.1,Al.set h.2 k hx⟩
 | [],_::_,h,_,_,_,_=>h.elim
 | _::_,[],h,_,_,_,_=>h.elim
theorem Al.filter {p:α→Bool} {q:β→Bool} (hpq:∀ x y,T x y→p x=q y):∀ {xs:List α} {ys:List β},Al T xs ys→Al T (xs.filter p) (ys.filter q)
 | [],[],_=>trivial
 | x::xs,y::ys,h=>by
  have e:=hpq _ _ h.1
  rw [List.filter_cons,List.filter_cons,e]
  split
  ·exact⟨h.1,Al.filter hpq h.2⟩
  ·exact Al.filter hpq h.2
 | [],_::_,h=>h.elim
 | _::_,[],h=>h.elim
end
/-- a route's cells -/
structure RA where
 key:ByteArray
 ha:Option Addr
 hn:Nat
 hc:Nat
 path:ByteArray
 ma:Option Addr
 mn:Nat
 mc:Nat
 na:Option Addr
 nn:Nat
 nc:Nat
 dest:ByteArray
def RA.enc (x:RA):Nat→Value
 | 0=>.string x.key
 | 1=>.slice x.ha x.hn x.hc
 | 2=>.string x.path
 | 3=>.slice x.ma x.mn x.mc
 | 4=>.slice x.na x.nn x.nc
 | 5=>.string x.dest
 | _=>.nilFunc
theorem RA.one (r:RA) (j:Nat) (hj:j<6):(r.enc j).oneCell'=true:=by
 obtain rfl | rfl | rfl | rfl | rfl | rfl:j=0∨j=1∨j=2∨j=3∨j=4∨j=5:=by omega
 all_goals rfl
def RA.val (x:RA):Value:=.agg #[.string x.key,.slice x.ha x.hn x.hc,.string x.path,.slice x.ma x.mn x.mc,.slice x.na x.nn x.nc,.string x.dest]
/-- a row of strings -/
abbrev SSl1 (w:World) (A:Option Addr) (n:Nat) (l:List ByteArray):Prop:=Sl w 9 1 sEnc A n l
/-- a route stands in memory -/
structure RtAt (w:World) (x:RA) (r:RtD):Prop where
 key:x.key=r.key
 path:x.path=r.path
 dest:x.dest=r.dest
 hosts:SSl1 w x.ha x.hn r.hosts
 methods:SSl1 w x.ma x.mn r.methods
 needs:QSl w x.na x.nn r.needs
 hcap:x.hn≤x.hc
 mcap:x.mn≤x.mc
 ncap:x.nn≤x.nc
theorem RtAt.new {w w':World} {x:RA} {r:RtD} (h:RtAt w x r) (hm:New w w'):RtAt w' x r:=⟨h.key,h.path,h.dest,h.hosts.new hm,h.methods.new hm,h.needs.new hm,h.hcap,h.mcap,h.ncap⟩
/-- a row of routes -/
def RtRows (w:World) (A:Option Addr) (n:Nat) (rs:List RtD):Prop:=∃ xs:List RA,Sl w 29 6 RA.enc A n xs∧Al (RtAt w) xs rs
theorem RtRows.new {w w':World} {A:Option Addr} {n:Nat} {rs:List RtD} (h:RtRows w A n rs) (hm:New w w'):RtRows w' A n rs:=by
 obtain⟨xs,h1,h2⟩:=h
 exact⟨xs,h1.new hm,h2.imp (fun _ _ q=>q.new hm)⟩
theorem RtRows.nil (w:World):RtRows w none 0 []:=⟨[],Sl.nil,trivial⟩
theorem RtRows.len {w:World} {A:Option Addr} {n:Nat} {rs:List RtD} (h:RtRows w A n rs):n=rs.length:=by
 obtain⟨xs,h1,h2⟩:=h
 rw [← h2.len,h1.1]
/-- sizes that the walks can carry -/
structure RtShort (r:RtD):Prop where
 key:r.key.size≤200000
 path:r.path.size≤100000
 dest:r.dest.size≤100000
 hosts:r.hosts.length≤200000∧∀ h∈r.hosts,h.size≤200000
 methods:r.methods.length≤200000∧∀ h∈r.methods,h.size≤200000
 needs:r.needs.length≤200000∧∀ p∈r.needs,p.1.size≤200000∧p.2.size≤200000
set_option maxHeartbeats 1000000 in
theorem rt_isHostPattern (s:ByteArray) (w:World) (hs:s.size≤900000) (hx:MaxLn w):
  Calls Tryz.prog 139 #[.string s] w fun e w'=>e= .returned (.bool (hostPat s))∧New w w':=by
 have htp:=Tryz.strings_TrimPrefix s ⟨#[42,46]⟩ w
 have HP:Hid (hostPat s=(hostForm (starOff s)&&decide (hostN (starOff s).data.toList=(starOff s).data.toList))):=hId rfl
 have hst:(⟨(Lib.trimPrefix s.data.toList (⟨#[42,46]⟩:ByteArray).data.toList).toArray⟩:ByteArray)=starOff s:=rfl
 rw [hst]at htp
 have hsz:(starOff s).size≤900000:=by
  show(Lib.trimPrefix s.data.toList [42,46]).toArray.size≤_
  have:(Lib.trimPrefix s.data.toList [42,46]).length≤s.data.toList.length:=by
   unfold Lib.trimPrefix
   split
   ·rw [List.length_drop];omega
   ·exact Nat.le_refl _
  have h2:s.data.toList.length=s.size:=rfl
  simp
  omega
 clear hst
 generalize starOff s=t at *
 have q:=msg_normalHost t w hsz hx
 go_enter Tryz.func139,Tryz.ntmps139
 go_wp2_with fail
 refine htp.mono ?_
 clear htp
 rintro e w1 ⟨rfl,rfl⟩
 go_wp2_with fail
 refine q.mono ?_
 clear q
 rintro e w2 ⟨rfl,m2⟩
 have HM:=hId m2
 clear m2 hx
 cases hf:hostForm t
 ·rw [hf]at HP
  simp only [Bool.false_eq_true,if_false]
  clear hf
  go_wp2_with fail
  go_ret
  exact⟨ret_bool (by rw [HP.out];rfl),HM.out⟩
 ·rw [hf,Bool.true_and]at HP
  simp only [if_true]
  have hb:((⟨(hostN t.data.toList).toArray⟩:ByteArray).toList == t.toList)=decide (hostN t.data.toList=t.data.toList):=by
   rw [ByteArray.toList_eq,ByteArray.toList_eq,Bool.eq_iff_iff];simp
  generalize decide (hostN t.data.toList=t.data.toList)=r at *
  generalize (⟨(hostN t.data.toList).toArray⟩:ByteArray)=z at *
  clear hf
  go_wp2_with fail
  go_ret
  exact⟨ret_bool (by rw [HP.out]),HM.out⟩
theorem contains_take (A:Option Addr) (n c k:Nat) (l:List ByteArray) (x:ByteArray) (w:World) (h:SSl1 w A n l) (hk:k≤n) (hn:n≤1000000):
  Calls Tryz.prog 37 #[.slice A k c,.string x] w fun e w'=>e= .returned (.bool (Lib.containsS (l.take k) x))∧w'=w:=by
 have hl:=h.1
 rcases Nat.eq_zero_or_pos k with rfl | h0
 ·refine(Tryz.slices_Contains_string_empty A c x w).mono ?_
  rintro e w' ⟨rfl,rfl⟩
  exact⟨by rw [List.take_zero];rfl,rfl⟩
 ·obtain⟨g,o,rfl,-,hc⟩:=h.2 (by omega)
  have q:=Tryz.slices_Contains_string g o k c l x w (by omega) (by omega) (fun j hj=>by
   have:=hc j hj 0 (by omega)
   simp only [Nat.mul_one,Nat.add_zero]at this
   rw [this]
   simp [List.getD_eq_getElem?_getD,hj,sEnc])
  exact q
set_option maxHeartbeats 1000000 in
theorem rt_hostsFault (A:Option Addr) (n c:Nat) (l:List ByteArray) (w:World) (h:SSl1 w A n l) (hcap:n≤c) (hn:n≤200000) (hz:∀ s∈l,s.size≤200000) (hx:MaxLn w):
  Calls Tryz.prog 75 #[.slice A n c] w fun e w'=>e= .returned (.int .i64 (hostsF l))∧New w w':=by
 have hl:=h.1
 by_cases hb:20<n
 ·have hb':(20:Int)<n:=by omega
  have HR:Hid (hostsF l=2):=hId (by unfold hostsF;rw [if_pos (by omega)])
  go_enter Tryz.func75,Tryz.ntmps75
  go_wp2_with fail
  go_ret
  exact⟨ret_int HR.out.symm,Mod.refl _ _⟩
 ·have hb':¬ (20:Int)<n:=by omega
  have HR:Hid (hostsF l=eachF hostF (l.take 0) (l.drop 0)):=hId (by unfold hostsF;rw [if_neg (by omega)];rfl)
  have HS:=hId h
  have HZ:=hId hz
  have HX:=hId hx
  have HL:=hId hl
  clear h hz hx hl hb
  go_enter Tryz.func75,Tryz.ntmps75
  go_wp2_with fail
  go_loopw [10] (fun i wr=>∃ k:Nat,k≤n∧i= .int .i64 k∧Hid (hostsF l=eachF hostF (l.take k) (l.drop k))∧Hid (New w wr)) (fun i _=>n -(intOf i).toNat)
  case atStart=>exact⟨0,Nat.zero_le _,rfl,HR,hId (Mod.refl _ _)⟩
  clear HR
  case round=>
   rename World=>wr
   obtain⟨k,hk,rfl,HR,HM⟩:=hrel
   by_cases hlt:k<n
   ·have hkl:k<l.length:=by have:=HL.out;omega
    have HST:=hId (eachF_step hostF hkl)
    obtain⟨g,o,hA,htb,hc0⟩:=(HS.out.new HM.out).2 (by omega)
    have hct:=fun W (h:New w W)=>contains_take A n c k l l[k] W (HS.out.new h) (by omega) (by omega)
    have hsz:=HZ.out _ (List.getElem_mem hkl)
    subst hA
    have hgl:=htb.lt
    have hcell:=hc0 k hkl 0 (by omega)
    simp only [Nat.mul_one,Nat.add_zero,sEnc]at hcell
    have q:=rt_isHostPattern l[k] wr (by omega) (HX.out.new HM.out)
    have HFF:Hid (hostF (l.take k) l[k]=if !hostPat l[k] then 3 else if Lib.containsS (l.take k) l[k] then 6 else 0):=hId rfl
    have HCT:=hId hct
    clear hct htb hc0
    generalize l[k]=x at *
    generalize Lib.containsS (l.take k) x=cn at *
    have hb2:(0:Int)≤k:=by omega
    have hb3:(k:Int)<n:=by omega
    have hb4:(k:Int)≤c:=by omega
    cases hp:hostPat x
    ·rw [hp]at q HFF
     have HE:Hid (hostsF l=3):=hId (by rw [HR.out,HST.out,HFF.out];rfl)
     clear hp
     go_wp2_with fail
     refine q.mono ?_
     clear q
     rintro e w2 ⟨rfl,m2⟩
     have HM2:=hId (HM.out.trans m2)
     clear m2
     go_wp2_with fail
     go_ret
     exact⟨ret_int HE.out.symm,HM2.out⟩
    ·rw [hp]at q HFF
     clear hp
     go_wp2_with fail
     refine q.mono ?_
     clear q
     rintro e w2 ⟨rfl,m2⟩
     have HM2:=hId (HM.out.trans m2)
     have q2:=HCT.out _ HM2.out
     clear m2
     cases cn
     ·have HE:Hid (hostsF l=eachF hostF (l.take (k+1)) (l.drop (k+1))):=hId (by rw [HR.out,HST.out,HFF.out];rfl)
      go_wp2_with fail
      refine q2.mono ?_
      clear q2
      rintro e w3 ⟨rfl,rfl⟩
      go_wp2_with fail
      exact⟨⟨k+1,by omega,by go_num,HE,HM2⟩,by simp [intOf];omega⟩
     ·have HE:Hid (hostsF l=6):=hId (by rw [HR.out,HST.out,HFF.out];rfl)
      go_wp2_with fail
      refine q2.mono ?_
      clear q2
      rintro e w3 ⟨rfl,rfl⟩
      go_wp2_with fail
      go_ret
      exact⟨ret_int HE.out.symm,HM2.out⟩
   ·obtain rfl:k=n:=by omega
    have HE:Hid (hostsF l=0):=hId (by have:=HL.out;rw [HR.out,←this];exact eachF_end _ _)
    go_wp2_with fail
    go_ret
    exact⟨ret_int HE.out.symm,HM.out⟩
theorem tok_ascii_all {s:ByteArray} (h:isTok s=true):∀(j:Nat) (b:UInt8),s.data.toList[j]? =some b→b.toNat<128:=fun j b hb=>by
 unfold isTok at h
 simp only [Bool.and_eq_true,List.all_eq_true]at h
 exact tok_ascii (h.1.1 b (List.mem_of_getElem? hb))
theorem upper_beq (s:ByteArray):((⟨(Lib.toUpperA s.data.toList).toArray⟩:ByteArray).toList == s.toList)=noLow s.data.toList:=by
 rw [← upper_self,ByteArray.toList_eq,ByteArray.toList_eq,Bool.eq_iff_iff]
 simp
theorem lower_beq (s:ByteArray):((⟨(Lib.toLowerA s.data.toList).toArray⟩:ByteArray).toList == s.toList)=noUp s.data.toList:=by
 rw [← lower_self,ByteArray.toList_eq,ByteArray.toList_eq,Bool.eq_iff_iff]
 simp
set_option maxHeartbeats 1000000 in
theorem rt_methodsFault (A:Option Addr) (n c:Nat) (l:List ByteArray) (w:World) (h:SSl1 w A n l) (hcap:n≤c) (hn:n≤200000) (hz:∀ s∈l,s.size≤200000) (hx:MaxLn w):
  Calls Tryz.prog 76 #[.slice A n c] w fun e w'=>e= .returned (.int .i64 (methodsF l))∧New w w':=by
 have hl:=h.1
 by_cases hb:20<n
 ·have hb':(20:Int)<n:=by omega
  have HR:Hid (methodsF l=2):=hId (by unfold methodsF;rw [if_pos (by omega)])
  go_enter Tryz.func76,Tryz.ntmps76
  go_wp2_with fail
  go_ret
  exact⟨ret_int HR.out.symm,Mod.refl _ _⟩
 ·have hb':¬ (20:Int)<n:=by omega
  have HR:Hid (methodsF l=eachF methodF (l.take 0) (l.drop 0)):=hId (by unfold methodsF;rw [if_neg (by omega)];rfl)
  have HS:=hId h
  have HZ:=hId hz
  have HX:=hId hx
  have HL:=hId hl
  clear h hz hx hl hb
  go_enter Tryz.func76,Tryz.ntmps76
  go_wp2_with fail
  go_loopw [10] (fun i wr=>∃ k:Nat,k≤n∧i= .int .i64 k∧Hid (methodsF l=eachF methodF (l.take k) (l.drop k))∧Hid (New w wr)) (fun i _=>n -(intOf i).toNat)
  case atStart=>exact⟨0,Nat.zero_le _,rfl,HR,hId (Mod.refl _ _)⟩
  clear HR
  case round=>
   rename World=>wr
   obtain⟨k,hk,rfl,HR,HM⟩:=hrel
   by_cases hlt:k<n
   ·have hkl:k<l.length:=by have:=HL.out;omega
    have HST:=hId (eachF_step methodF hkl)
    obtain⟨g,o,hA,htb,hc0⟩:=(HS.out.new HM.out).2 (by omega)
    have hct:=fun W (h:New w W)=>contains_take A n c k l l[k] W (HS.out.new h) (by omega) (by omega)
    have hsz:=HZ.out _ (List.getElem_mem hkl)
    subst hA
    have hgl:=htb.lt
    have hcell:=hc0 k hkl 0 (by omega)
    simp only [Nat.mul_one,Nat.add_zero,sEnc]at hcell
    have q:=msg_isToken l[k] wr (by unfold maxLen;omega)
    have qu:=fun W (h:isTok l[k]=true)=>Tryz.strings_ToUpper_ascii l[k] W (by omega) (tok_ascii_all h)
    have HU:=hId qu
    have HBQ:=hId (upper_beq l[k])
    clear qu
    have HFF:Hid (methodF (l.take k) l[k]=if !(isTok l[k]&&noLow l[k].data.toList) then 5 else if Lib.containsS (l.take k) l[k] then 6 else 0):=hId rfl
    have HCT:=hId hct
    clear hct htb hc0
    generalize l[k]=x at *
    generalize Lib.containsS (l.take k) x=cn at *
    have hb2:(0:Int)≤k:=by omega
    have hb3:(k:Int)<n:=by omega
    have hb4:(k:Int)≤c:=by omega
    cases hp:isTok x
    ·rw [hp]at q HFF
     have HE:Hid (methodsF l=5):=hId (by rw [HR.out,HST.out,HFF.out];rfl)
     clear hp
     go_wp2_with fail
     refine q.mono ?_
     clear q
     rintro e w2 ⟨rfl,rfl⟩
     go_wp2_with fail
     go_ret
     exact⟨ret_int HE.out.symm,HM.out⟩
    ·have HUU:=hId (fun W=>HU.out W hp)
     rw [hp]at q HFF
     clear hp HU
     have hbq:=HBQ.out
     generalize (⟨(Lib.toUpperA x.data.toList).toArray⟩:ByteArray)=T at *
     generalize noLow x.data.toList=nl at *
     clear HBQ
     go_wp2_with fail
     refine q.mono ?_
     clear q
     rintro e w2 ⟨rfl,rfl⟩
     have qu:=HUU.out wr
     cases nl
     ·have HE:Hid (methodsF l=5):=hId (by rw [HR.out,HST.out,HFF.out];rfl)
      go_wp2_with fail
      refine qu.mono ?_
      clear qu
      rintro e w3 ⟨rfl,m3⟩
      have HM3:=hId (HM.out.trans (Mod.of_below m3))
      clear m3
      go_wp2_with fail
      go_ret
      exact⟨ret_int HE.out.symm,HM3.out⟩
     ·go_wp2_with fail
      refine qu.mono ?_
      clear qu
      rintro e w3 ⟨rfl,m3⟩
      have HM2:=hId (HM.out.trans (Mod.of_below m3))
      have q2:=HCT.out _ HM2.out
      clear m3
      cases cn
      ·have HE:Hid (methodsF l=eachF methodF (l.take (k+1)) (l.drop (k+1))):=hId (by rw [HR.out,HST.out,HFF.out];rfl)
       go_wp2_with fail
       refine q2.mono ?_
       clear q2
       rintro e w3 ⟨rfl,rfl⟩
       go_wp2_with fail
       exact⟨⟨k+1,by omega,by go_num,HE,HM2⟩,by simp [intOf];omega⟩
      ·have HE:Hid (methodsF l=6):=hId (by rw [HR.out,HST.out,HFF.out];rfl)
       go_wp2_with fail
       refine q2.mono ?_
       clear q2
       rintro e w3 ⟨rfl,rfl⟩
       go_wp2_with fail
       go_ret
       exact⟨ret_int HE.out.symm,HM2.out⟩
   ·obtain rfl:k=n:=by omega
    have HE:Hid (methodsF l=0):=hId (by have:=HL.out;rw [HR.out,←this];exact eachF_end _ _)
    go_wp2_with fail
    go_ret
    exact⟨ret_int HE.out.symm,HM.out⟩
end Go.Proofs.YtnlloaimplgjnaaGreatDoor
namespace Go.Proofs.YtnlloaimplgjnaaGreatDoor
open Go Go.RowKit
set_option linter.unusedVariables false
set_option linter.unusedSimpArgs false
section
variable {P:Program} {ops:Array Oper} {Q:Exit→Act→World→Prop} {S:World→Prop}
theorem heldQ_step {cs:List Nat} {L:Act→World→Prop} {k:Nat} {o:Oper} {l:List Nat} {a:Act} {w:World} (hk:cs.contains k=true) (ho:ops[k]? =some o) (hg:Region.wanted o (yielded ops a.tmps)=true)
  (h:∀ K:Act→World→Prop,Shut (∀ a' w',S w'→(S w'→wpHeldO P ops Q S cs L l a' w')→K a' w')→o.wp P a w K Q):wpHeldO P ops Q S cs L (k::l) a w:=by
 unfold wpHeldO
 rw [if_pos hk]
 unfold wpOp
 simp only [ho]
 rw [if_pos hg]
 exact .inl (h _ (fun a' w' h1 h2=>⟨h1,h2 h1⟩))
theorem heldQ_skip {cs:List Nat} {L:Act→World→Prop} {k:Nat} {o:Oper} {l:List Nat} {a:Act} {w:World} (hk:cs.contains k=false) (ho:ops[k]? =some o) (hg:Region.wanted o (yielded ops a.tmps)=false)
  (h:wpHeldO P ops Q S cs L l (a.put o.dst undef) w):wpHeldO P ops Q S cs L (k::l) a w:=by
 unfold wpHeldO
 rw [if_neg (by rw [hk];exact Bool.false_ne_true)]
 exact⟨o,undef,ho,.inr ⟨hg,rfl⟩,h⟩
theorem heldQ_skipC {cs:List Nat} {L:Act→World→Prop} {k:Nat} {o:Oper} {l:List Nat} {a:Act} {w:World} (hk:cs.contains k=true) (ho:ops[k]? =some o) (hg:Region.wanted o (yielded ops a.tmps)=false) (hS:S w)
  (h:wpHeldO P ops Q S cs L l (a.put o.dst undef) w):wpHeldO P ops Q S cs L (k::l) a w:=by
 unfold wpHeldO
 rw [if_pos hk]
 unfold wpOp
 simp only [ho]
 rw [if_neg (by rw [hg];exact Bool.false_ne_true)]
 exact⟨hS,h⟩
end
end Go.Proofs.YtnlloaimplgjnaaGreatDoor
