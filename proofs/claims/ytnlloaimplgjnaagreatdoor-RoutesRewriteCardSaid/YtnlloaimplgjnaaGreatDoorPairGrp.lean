/- Several texts in one. (1) Parameters of a path: rows of pairs; they are equal where they are alike (slices.Equal); looking one up (route.param). Conditions: at most 1000000 pairs. (2) The maker of parameters (Stream.Pairs). Conditions: as for the stream. (3) Makers of requests: hosts, fields, tokens (one of some texts). Conditions: as for the stream. (4) slices.Equal of headers. Printed by mkhdr.py. Conditions: at most 1000000 headers. (5) Tokens, fields and labels: the program's tests (package message). Conditions: strings no longer than an int can count. (6) The reference: tokens and fields. Conditions: a text of modest size. -/
import Derived.Test.YtnlloaimplgjnaaGreatDoorSeg3Grp
import Derived.Test.YtnlloaimplgjnaaGreatDoorMatLawGrp
import Derived.Deep.QuietTactic
import Derived.BigQuiet
import Derived.Test.YtnlloaimplgjnaaGreatDoorTpl2Grp
import Derived.Test.YtnlloaimplgjnaaGreatDoorRtLawGrp
import Derived.Test.YtnlloaimplgjnaaGreatDoorTpl3Grp
import Derived.Test.YtnlloaimplgjnaaGreatDoorBuGrp
import Derived.Test.YtnlloaimplgjnaaGreatDoorNumMGrp
namespace Go.Proofs.YtnlloaimplgjnaaGreatDoor
open Go.RowKit
set_option linter.unusedVariables false
set_option linter.unusedSimpArgs false
def pairEnc (p:PairD):Nat→Value
 | 0=>.string p.1
 | _=>.string p.2
def pairVal (p:PairD):Value:=.agg #[.string p.1,.string p.2]
abbrev QSl (w:World) (A:Option Addr) (n:Nat) (ps:List PairD):Prop:=Sl w 52 2 pairEnc A n ps
theorem pairEnc_one (p:PairD) (j:Nat) (hj:j<2):(pairEnc p j).oneCell'=true:=by
 match j,hj with
 | 0,_=>rfl
 | 1,_=>rfl
theorem einfo_pair:EInfo Tryz.prog 52 2 32:=EInfo.of (z:=.agg #[.string ⟨#[]⟩,.string ⟨#[]⟩]) (by kernel_rfl) rfl (by decide)
/-- a parameter's value, and whether it is there -/
def RLook (q:Option ByteArray) (w:World) (e:Ending) (w':World):Prop:=e= .returned (.tuple #[.string (q.getD ⟨#[]⟩),.bool q.isSome])∧New w w'
theorem RLook.some {q:Option ByteArray} {w w':World} {x:ByteArray} (h:q=some x) (hm:New w w'):RLook q w (.returned (.tuple #[.string x,.bool true])) w':=⟨by rw [h];rfl,hm⟩
theorem RLook.none {q:Option ByteArray} {w w':World} (h:q=none) (hm:New w w'):RLook q w (.returned (.tuple #[.string ⟨#[]⟩,.bool false])) w':=⟨by rw [h];rfl,hm⟩
set_option maxHeartbeats 1000000 in
theorem route_param (A:Option Addr) (n c:Nat) (l:List PairD) (s:ByteArray) (w:World) (hs:QSl w A n l) (hn:n≤100000):
  Calls Tryz.prog 82 #[.slice A n c,.string s] w (RLook (lookP l s) w):=by
 have HS:=hId hs
 have HL:=hId hs.1
 clear hs
 go_enter Tryz.func82,Tryz.ntmps82
 go_wp2_with fail
 go_loopw [10] (fun i wr=>∃ k:Nat,k≤n∧i= .int .i64 k∧Hid (lookP l s=lookP (l.drop k) s)∧Hid (New w wr)) (fun i _=>n -(intOf i).toNat)
 case atStart=>exact⟨0,Nat.zero_le _,rfl,hId rfl,hId (Mod.refl _ _)⟩
 case round=>
  rename World=>wr
  obtain⟨k,hk,rfl,HE,HM⟩:=hrel
  by_cases hlt:k<n
  ·have hkl:k<l.length:=by have:=HL.out;omega
   obtain⟨g,o,hA,ht,hc⟩:=(HS.out.new HM.out).2 (by omega)
   subst hA
   have a0:=hc k hkl 0 (by omega)
   have a1:=hc k hkl 1 (by omega)
   have hat:=lookP_at hkl s
   have hgl:=ht.lt
   have hb1:(0:Int)≤k:=by omega
   have hb2:(k:Int)<n:=by omega
   clear hc ht
   generalize l[k]=z at *
   obtain⟨zn,zv⟩:=z
   simp only [pairEnc,Nat.add_zero]at a0 a1
   simp only at hat
   rw [← HE.out]at hat
   have hbx:=Blk.new wr 52 #[.string zn,.string zv]
   have hmx:New wr (wr.alloc (.cells #[.string zn,.string zv] 52)):=(Mod.refl _ _).alloc _
   have HM1:=hId (HM.out.trans hmx)
   have hq:=str_beq zn s
   clear hmx HM HE
   by_cases e:zn=s
   ·rw [if_pos e]at hat
    rw [decide_eq_true e]at hq
    have HT:=hId hat
    clear hat e
    go_wp2_with fail
    go_ret2
    exact RLook.some HT.out HM1.out
   ·rw [if_neg e]at hat
    rw [decide_eq_false e]at hq
    have HT:=hId hat
    clear hat e
    go_wp2_with fail
    go_roundw
    case rel=>exact⟨k+1,by omega,by go_num,HT,HM1⟩
    case measure=>simp [intOf];omega
  ·obtain rfl:k=n:=by omega
   have HN:Hid (lookP l s=none):=hId (by rw [HE.out,List.drop_of_length_le (by have:=HL.out;omega)];rfl)
   go_wp2_with fail
   go_ret2
   exact RLook.none HN.out HM.out
def QTiny (l:List PairD):Prop:=∀ p∈l,p.1.size≤10∧p.2.size≤10
theorem QTiny.snoc {l:List PairD} {a b:ByteArray} (h:QTiny l) (ha:a.size≤10) (hb:b.size≤10):QTiny (l++ [(a,b)]):=fun p hp=>by
 rcases List.mem_append.1 hp with h1 | h1
 ·exact h p h1
 ·simp at h1;subst h1;exact⟨ha,hb⟩
theorem Own.farP {α:Type} {w:World} {B:Nat} {t:TypeId} {sz:Nat} {enc:α→Nat→Value} {A:Option Addr} {n c:Nat} {xs:List α} (h:Own w B t sz enc A n c xs) (g:Nat) (e:blkOf A=some g):B≤g:=by
 rcases h.blk with⟨rfl,_,_⟩ |⟨g',rfl,hB,_⟩
 ·cases e
 ·injection e with e;subst e;exact hB
theorem SStep.modP {S:Nat→Prop} {b k:Nat} {w w' w'':World} (h:SStep b w w' k) (hm:Mod S w' w'') (hS:∀ i,S i→w.heap.size≤i):SStep b w w'' k:=
 ⟨h.lt,h.only.step hm (fun i hi e=>by have:=hS i e;omega),h.inv.mod hm (fun i hi e=>by have:=hS i e;have:=h.lt;omega)⟩
theorem Own.ncap {α:Type} {w:World} {B:Nat} {t:TypeId} {sz:Nat} {enc:α→Nat→Value} {A:Option Addr} {n c:Nat} {xs:List α} (h:Own w B t sz enc A n c xs):n≤c:=by
 rcases Nat.eq_zero_or_pos n with rfl | h0
 ·exact Nat.zero_le _
 ·obtain⟨_,_,_,_,h5,_⟩:=h.form h0
  exact h5
set_option maxRecDepth 100000 in
set_option maxHeartbeats 1000000 in
theorem rightHost_any (b k:Nat) (w:World) (hs:SInv b w k) (hk:k<4611686018427000000):
  Calls Tryz.prog 132 #[.pointer (some ⟨b,0,none⟩)] w (RStr fun m w'=>m.size≤10∧SStep b w w' (k+1)):=by
 have T0:=SStep.refl hs
 go_enter Tryz.func132,Tryz.ntmps132
 go_wp2_with fail
 have T1:=T0
 clear T0 hs
 refine(some_any [⟨#[97,46,98]⟩,⟨#[97,46,98]⟩,⟨#[65,46,66]⟩,⟨#[97,46,98,58,56,48]⟩,⟨#[99,46,100,58,56,48,56,48]⟩] b k w.heap.size 5 _ (T1.alloc _).inv (by omega) (Blk.new _ _ _) rfl (by omega) (by omega)).mono ?_
 rintro e w1 ⟨t,rfl,ht,h1⟩
 have htz:t.size≤10:=by
  simp only [List.mem_cons,List.not_mem_nil,or_false]at ht
  rcases ht with rfl | rfl | rfl | rfl | rfl
  all_goals first | decide
 have T2:=(T1.alloc _).trans h1
 clear h1 ht T1
 go_wp2_with fail
 go_ret
 exact⟨_,rfl,htz,T2.more (by omega)⟩
set_option maxRecDepth 100000 in
set_option maxHeartbeats 1000000 in
theorem tokenText_any (b k:Nat) (w:World) (hs:SInv b w k) (hk:k<4611686018427000000):
  Calls Tryz.prog 61 #[.pointer (some ⟨b,0,none⟩)] w (RStr fun m w'=>m.size≤101∧SStep b w w' (k+1)):=by
 have hr:=Tryz.strings_Repeat ⟨#[110]⟩ 101 w (by decide) (by decide)
 have hz:(⟨(Lib.repeatL (⟨#[110]⟩:ByteArray).data.toList 101).toArray⟩:ByteArray).size≤101:=by
  show(Lib.repeatL _ _).toArray.size≤_
  rw [List.size_toArray,Lib.repeatL_length]
  decide
 generalize (⟨(Lib.repeatL (⟨#[110]⟩:ByteArray).data.toList 101).toArray⟩:ByteArray)=U at *
 have T0:=SStep.refl hs
 go_enter Tryz.func61,Tryz.ntmps61
 go_wp2_with fail
 refine hr.mono ?_
 clear hr
 rintro e w0 ⟨rfl,hm0⟩
 have T1:=T0.new (Mod.of_below hm0)
 clear T0 hm0 hs
 go_wp2_with fail
 refine(some_any [⟨#[97,99,99,101,112,116]⟩,⟨#[88,45,79,110,101]⟩,⟨#[120,45,111,110,101]⟩,⟨#[118,105,97]⟩,⟨#[97]⟩,⟨#[65]⟩,⟨#[116,101]⟩,⟨#[99,111,110,110,101,99,116,105,111,110]⟩,⟨#[]⟩,⟨#[97,32,98]⟩,⟨#[97,58]⟩,⟨#[127]⟩,U] b k w0.heap.size 13 _ (T1.alloc _).inv (by omega) (Blk.new _ _ _) rfl (by omega) (by omega)).mono ?_
 rintro e w1 ⟨t,rfl,ht,h1⟩
 have htz:t.size≤101:=by
  simp only [List.mem_cons,List.not_mem_nil,or_false]at ht
  rcases ht with rfl | rfl | rfl | rfl | rfl | rfl | rfl | rfl | rfl | rfl | rfl | rfl | rfl
  all_goals first | exact hz | decide
 have T2:=(T1.alloc _).trans h1
 clear h1 ht T1
 go_wp2_with fail
 go_ret
 exact⟨_,rfl,htz,T2.more (by omega)⟩
set_option maxRecDepth 100000 in
set_option maxHeartbeats 1000000 in
theorem fieldText_any (b k:Nat) (w:World) (hs:SInv b w k) (hk:k<4611686018427000000):
  Calls Tryz.prog 64 #[.pointer (some ⟨b,0,none⟩)] w (RStr fun m w'=>m.size≤2001∧SStep b w w' (k+1)):=by
 have hr:=Tryz.strings_Repeat ⟨#[118]⟩ 2001 w (by decide) (by decide)
 have hz:(⟨(Lib.repeatL (⟨#[118]⟩:ByteArray).data.toList 2001).toArray⟩:ByteArray).size≤2001:=by
  show(Lib.repeatL _ _).toArray.size≤_
  rw [List.size_toArray,Lib.repeatL_length]
  decide
 generalize (⟨(Lib.repeatL (⟨#[118]⟩:ByteArray).data.toList 2001).toArray⟩:ByteArray)=U at *
 have T0:=SStep.refl hs
 go_enter Tryz.func64,Tryz.ntmps64
 go_wp2_with fail
 refine hr.mono ?_
 clear hr
 rintro e w0 ⟨rfl,hm0⟩
 have T1:=T0.new (Mod.of_below hm0)
 clear T0 hm0 hs
 go_wp2_with fail
 refine(some_any [⟨#[49]⟩,⟨#[120]⟩,⟨#[97,44,32,98]⟩,⟨#[]⟩,⟨#[116,101,120,116,47,104,116,109,108]⟩,⟨#[99,108,111,115,101]⟩,⟨#[120,45,111,110,101]⟩,⟨#[103,119,44,32,98]⟩,⟨#[49,46,50,46,51,46,52,44,32,53,46,54,46,55,46,56]⟩,⟨#[32,120]⟩,⟨#[120,32]⟩,⟨#[97,9,98]⟩,⟨#[128]⟩,U] b k w0.heap.size 14 _ (T1.alloc _).inv (by omega) (Blk.new _ _ _) rfl (by omega) (by omega)).mono ?_
 rintro e w1 ⟨t,rfl,ht,h1⟩
 have htz:t.size≤2001:=by
  simp only [List.mem_cons,List.not_mem_nil,or_false]at ht
  rcases ht with rfl | rfl | rfl | rfl | rfl | rfl | rfl | rfl | rfl | rfl | rfl | rfl | rfl | rfl
  all_goals first | exact hz | decide
 have T2:=(T1.alloc _).trans h1
 clear h1 ht T1
 go_wp2_with fail
 go_ret
 exact⟨_,rfl,htz,T2.more (by omega)⟩
set_option maxRecDepth 100000 in
set_option maxHeartbeats 1000000 in
theorem hostName_any (b k:Nat) (w:World) (hs:SInv b w k) (hk:k<4611686018427000000):
  Calls Tryz.prog 62 #[.pointer (some ⟨b,0,none⟩)] w (RStr fun m w'=>m.size≤64∧SStep b w w' (k+1)):=by
 have hr:=Tryz.strings_Repeat ⟨#[97]⟩ 64 w (by decide) (by decide)
 have hz:(⟨(Lib.repeatL (⟨#[97]⟩:ByteArray).data.toList 64).toArray⟩:ByteArray).size≤64:=by
  show(Lib.repeatL _ _).toArray.size≤_
  rw [List.size_toArray,Lib.repeatL_length]
  decide
 generalize (⟨(Lib.repeatL (⟨#[97]⟩:ByteArray).data.toList 64).toArray⟩:ByteArray)=U at *
 have T0:=SStep.refl hs
 go_enter Tryz.func62,Tryz.ntmps62
 go_wp2_with fail
 refine hr.mono ?_
 clear hr
 rintro e w0 ⟨rfl,hm0⟩
 have T1:=T0.new (Mod.of_below hm0)
 clear T0 hm0 hs
 go_wp2_with fail
 refine(some_any [⟨#[97,46,98]⟩,⟨#[97,46,98]⟩,⟨#[65,46,66]⟩,⟨#[115,104,111,112,46,101,120,97,109,112,108,101]⟩,⟨#[97,46,98,58,56,48]⟩,⟨#[97,46,98,58,52,52,51]⟩,⟨#[97,46,98,58,56,48,56,48]⟩,⟨#[120,45,49,46,121]⟩,⟨#[49,46,50,46,51,46,52]⟩,⟨#[]⟩,⟨#[97,46,46,98]⟩,⟨#[45,97,46,98]⟩,⟨#[97,46,98,58,48]⟩,⟨#[97,46,98,58,48,56]⟩,⟨#[97,46,98,58,54,53,53,51,54]⟩,⟨#[97,95,98]⟩,⟨#[97,46,98,58]⟩,⟨#[97,32,98]⟩,U] b k w0.heap.size 19 _ (T1.alloc _).inv (by omega) (Blk.new _ _ _) rfl (by omega) (by omega)).mono ?_
 rintro e w1 ⟨t,rfl,ht,h1⟩
 have htz:t.size≤64:=by
  simp only [List.mem_cons,List.not_mem_nil,or_false]at ht
  rcases ht with rfl | rfl | rfl | rfl | rfl | rfl | rfl | rfl | rfl | rfl | rfl | rfl | rfl | rfl | rfl | rfl | rfl | rfl | rfl
  all_goals first | exact hz | decide
 have T2:=(T1.alloc _).trans h1
 clear h1 ht T1
 go_wp2_with fail
 go_ret
 exact⟨_,rfl,htz,T2.more (by omega)⟩
/-- headers: names and values of modest size -/
def HSmall (l:List PairD):Prop:=∀ p∈l,p.1.size≤2001∧p.2.size≤2001
theorem HSmall.nil:HSmall []:=fun p hp=>by simp at hp
theorem HSmall.snoc {l:List PairD} {a b:ByteArray} (h:HSmall l) (ha:a.size≤2001) (hb:b.size≤2001):HSmall (l++ [(a,b)]):=fun p hp=>by
 rcases List.mem_append.1 hp with h1 | h1
 ·exact h p h1
 ·simp at h1;subst h1;exact⟨ha,hb⟩
abbrev HOwn (w:World) (B:Nat) (A:Option Addr) (n c:Nat) (ls:List PairD):Prop:=Own w B 54 2 pairEnc A n c ls
def RHdrs (b B:Nat) (w:World) (k m:Nat) (e:Ending) (w':World):Prop:=∃ A n c ls,e= .returned (.slice A n c)∧HOwn w' B A n c ls∧n≤m∧HSmall ls∧SStep b w w' k
theorem einfo_hdr:EInfo Tryz.prog 54 2 32:=EInfo.of (z:=.agg #[.string ⟨#[]⟩,.string ⟨#[]⟩]) (by kernel_rfl) rfl (by decide)
set_option maxRecDepth 100000 in
set_option maxHeartbeats 1000000 in
theorem rightHeaders_any (b k most:Nat) (w:World) (hs:SInv b w k) (hk:k<4611686018426000000) (hm:most≤100):
  Calls Tryz.prog 133 #[.pointer (some ⟨b,0,none⟩),.int .i64 (most:Int)] w (RHdrs b w.heap.size w (k+1+2 * most) most):=by
 have hbl:=hs.lt
 go_enter Tryz.func133,Tryz.ntmps133
 go_wp2_with fail
 refine(range_any b k 0 most w hs (by omega) (by omega) (by omega) (by omega)).mono ?_
 rintro e w1 ⟨m,rfl,m0,m1,h1⟩
 obtain⟨m,rfl⟩:=Int.eq_ofNat_of_zero_le m0
 have hmm:m≤most:=by omega
 have hmi:(m:Int)≤100:=by omega
 have T10:=hId h1
 clear h1 hs
 go_wp2_with fail
 go_loopw [5,9] (fun o i wr=>∃(j:Nat) (A:Option Addr) (c:Nat) (ls:List PairD),j≤m∧i= .int .i64 j∧o= .slice A j c∧Hid (HOwn wr w.heap.size A j c ls)∧Hid (HSmall ls)∧Hid (SStep b w wr (k+1+2 * j))) (fun _ i _=>m -(intOf i).toNat)
 case atStart=>exact⟨0,none,0,[],Nat.zero_le _,rfl,rfl,hId Own.nil,hId HSmall.nil,T10⟩
 case round=>
  clear T10
  rename World=>wr
  obtain⟨j,A,c,ls,hj,rfl,rfl,HO,HQ,T⟩:=hrel
  have HOF:Hid (∀ g',blkOf A=some g'→w.heap.size≤g'):=hId (fun g' e=>HO.out.farP g' e)
  have hTz:=T.out.only.size
  by_cases hlt:j<m
  ·go_wp2_with fail
   refine(some_any [⟨#[97,99,99,101,112,116]⟩,⟨#[65,99,99,101,112,116]⟩,⟨#[120,45,111,110,101]⟩,⟨#[88,45,84,119,111]⟩,⟨#[99,111,111,107,105,101]⟩,⟨#[118,97,114,121]⟩,⟨#[99,111,110,110,101,99,116,105,111,110]⟩,⟨#[120,45,102,111,114,119,97,114,100,101,100,45,102,111,114]⟩,⟨#[118,105,97]⟩,⟨#[120,45,102,111,114,119,97,114,100,101,100,45,104,111,115,116]⟩,⟨#[116,101]⟩] b _ wr.heap.size 11 _ (T.out.alloc _).inv (by omega) (Blk.new _ _ _) rfl (by omega) (by omega)).mono ?_
   rintro e w2 ⟨x,rfl,hx,h2⟩
   have hxz:x.size≤2001:=by
    simp only [List.mem_cons,List.not_mem_nil,or_false]at hx
    rcases hx with rfl | rfl | rfl | rfl | rfl | rfl | rfl | rfl | rfl | rfl | rfl <;> decide
   have m2:=((Mod.refl (fun i=>i=b) wr).alloc (.cells (List.map Value.string [⟨#[97,99,99,101,112,116]⟩,⟨#[65,99,99,101,112,116]⟩,⟨#[120,45,111,110,101]⟩,⟨#[88,45,84,119,111]⟩,⟨#[99,111,111,107,105,101]⟩,⟨#[118,97,114,121]⟩,⟨#[99,111,110,110,101,99,116,105,111,110]⟩,⟨#[120,45,102,111,114,119,97,114,100,101,100,45,102,111,114]⟩,⟨#[118,105,97]⟩,⟨#[120,45,102,111,114,119,97,114,100,101,100,45,104,111,115,116]⟩,⟨#[116,101]⟩]).toArray 9)).trans h2.only
   have T2:=hId ((T.out.alloc (.cells (List.map Value.string [⟨#[97,99,99,101,112,116]⟩,⟨#[65,99,99,101,112,116]⟩,⟨#[120,45,111,110,101]⟩,⟨#[88,45,84,119,111]⟩,⟨#[99,111,111,107,105,101]⟩,⟨#[118,97,114,121]⟩,⟨#[99,111,110,110,101,99,116,105,111,110]⟩,⟨#[120,45,102,111,114,119,97,114,100,101,100,45,102,111,114]⟩,⟨#[118,105,97]⟩,⟨#[120,45,102,111,114,119,97,114,100,101,100,45,104,111,115,116]⟩,⟨#[116,101]⟩]).toArray 9)).trans h2)
   have HO2:=hId (HO.out.mod m2 (fun g e e2=>by have:=HOF.out g e;omega))
   have hz2:=m2.size
   clear h2 m2 T HO hx
   go_wp2_with fail
   refine(some_any [⟨#[49]⟩,⟨#[120]⟩,⟨#[97,44,32,98]⟩,⟨#[]⟩,⟨#[120,45,111,110,101,44,32,99,108,111,115,101]⟩,⟨#[103,119]⟩,⟨#[49,46,50,46,51,46,52]⟩,⟨#[53,46,54,46,55,46,56,44,32,57,46,57,46,57,46,57]⟩] b _ w2.heap.size 8 _ (T2.out.alloc _).inv (by omega) (Blk.new _ _ _) rfl (by omega) (by omega)).mono ?_
   rintro e w3 ⟨y,rfl,hy,h3⟩
   have hyz:y.size≤2001:=by
    simp only [List.mem_cons,List.not_mem_nil,or_false]at hy
    rcases hy with rfl | rfl | rfl | rfl | rfl | rfl | rfl | rfl <;> decide
   have m3:=((Mod.refl (fun i=>i=b) w2).alloc (.cells (List.map Value.string [⟨#[49]⟩,⟨#[120]⟩,⟨#[97,44,32,98]⟩,⟨#[]⟩,⟨#[120,45,111,110,101,44,32,99,108,111,115,101]⟩,⟨#[103,119]⟩,⟨#[49,46,50,46,51,46,52]⟩,⟨#[53,46,54,46,55,46,56,44,32,57,46,57,46,57,46,57]⟩]).toArray 9)).trans h3.only
   have T3:=hId ((T2.out.alloc (.cells (List.map Value.string [⟨#[49]⟩,⟨#[120]⟩,⟨#[97,44,32,98]⟩,⟨#[]⟩,⟨#[120,45,111,110,101,44,32,99,108,111,115,101]⟩,⟨#[103,119]⟩,⟨#[49,46,50,46,51,46,52]⟩,⟨#[53,46,54,46,55,46,56,44,32,57,46,57,46,57,46,57]⟩]).toArray 9)).trans h3)
   have HO3:=hId (HO2.out.mod m3 (fun g e e2=>by have:=HOF.out g e;omega))
   have hz3:=m3.size
   clear h3 m3 T2 HO2 hy
   have TN:=hId (T3.out.more (show _≤k+1+2 * (j+1)by omega))
   have hBq:w.heap.size≤(w3.alloc (.cells #[.string x,.string y] 54)).heap.size:=by simp;omega
   have HOA:=HO3.out.alloc (.cells #[.string x,.string y] 54)
   have hBn:=Blk.new w3 54 #[.string x,.string y]
   clear T3
   go_wp2_with (at_builtin;refine wpList_push rfl _ _ _ rfl 32 Tryz.underlying31 einfo_hdr rfl HOA (x,y) w3.heap.size rfl hBn (fun j hj=>pairEnc_one _ j hj) (by omega) (by omega) hBq ?_;intro g8 cap8 w8 own8 hm8 hat8 hlt8)
   have HO8:=hId own8
   have T8:=hId ((TN.out.alloc (.cells #[.string x,.string y] 54)).modP hm8 (fun i e=>HOF.out i e))
   clear own8 hm8
   go_roundw
   case rel=>exact⟨j+1,some ⟨g8,0,none⟩,cap8,ls++ [(x,y)],by omega,by go_num,rfl,HO8,hId (HQ.out.snoc hxz hyz),T8⟩
   case measure=>simp [intOf];omega
  ·obtain rfl:j=m:=by omega
   go_wp2_with fail
   go_ret
   exact⟨A,j,c,ls,rfl,HO.out,hmm,HQ.out,T.out.more (by omega)⟩
/-- a row of headers -/
abbrev HSl (w:World) (A:Option Addr) (n:Nat) (ps:List PairD):Prop:=Sl w 54 2 pairEnc A n ps
set_option maxHeartbeats 1000000 in
theorem equal_hdrs (zs:List PairD) (A1 A2:Option Addr) (n c1 c2:Nat) (w:World) (h1:HSl w A1 n zs) (h2:HSl w A2 n zs) (hn:n≤1000000):
  Calls Tryz.prog 50 #[.slice A1 n c1,.slice A2 n c2] w fun e w'=>e= .returned (.bool true)∧New w w':=by
 have hlen:=h1.1
 have H1:=hId h1
 have H2:=hId h2
 clear h1 h2
 go_enter Tryz.func50,Tryz.ntmps50
 go_wp2_with fail
 go_loopw [5,13] (fun _ i wr=>∃ k:Nat,k≤n∧i= .int .i64 k∧∃ q,wr=w.drewN q) (fun _ i _=>n -(intOf i).toNat)
 case atStart=>exact⟨0,Nat.zero_le _,rfl,0,rfl⟩
 case round=>
  obtain⟨k,hk,rfl,q,rfl⟩:=hrel
  by_cases hlt:k<n
  ·obtain⟨g1,o1,hA1,t1,k1⟩:=H1.out.2 (by omega)
   obtain⟨g2,o2,hA2,t2,k2⟩:=H2.out.2 (by omega)
   subst hA1 hA2
   have a0:=k1 k (by omega) 0 (by omega)
   have a1:=k1 k (by omega) 1 (by omega)
   have b0:=k2 k (by omega) 0 (by omega)
   have b1:=k2 k (by omega) 1 (by omega)
   simp only [pairEnc,Nat.add_zero]at a0 a1 b0 b1
   have l1:=t1.lt
   have l2:=t2.lt
   have hb1:(0:Int)≤k:=by omega
   have hb2:(k:Int)<n:=by omega
   clear k1 k2
   generalize zs[k]=z at *
   go_wp2_with fail
   go_quiet (fail)
   go_wp2_with fail
   exact⟨⟨k+1,by omega,by go_num,_,rfl⟩,by simp [intOf];omega⟩
  ·obtain rfl:k=n:=by omega
   go_wp2_with fail
   go_ret
   exact⟨rfl,(Mod.refl _ _).drewN _⟩
set_option maxHeartbeats 1000000 in
theorem msg_isTokenByte (c:UInt8) (w:World):Calls Tryz.prog 199 #[.int .u8 (c.toNat:Int)] w fun e w'=>e= .returned (.bool (tokN c))∧w=w':=by
 have hl:=msg_isLetter c.toNat w
 have hd:=msg_isDigit c.toNat w
 have hi:=Tryz.strings_IndexByte ⟨#[33,35,36,37,38,39,42,43,45,46,94,95,96,124,126]⟩ (c.toNat:Int) w
 rw [byteBack]at hi
 have HF:=hId (tmark_at c)
 generalize hr:Lib.indexByte (⟨#[33,35,36,37,38,39,42,43,45,46,94,95,96,124,126]⟩:ByteArray).data.toList c=r at hi
 have HR:Hid (Lib.indexByte tokMarks c=r):=hId hr
 clear hr
 cases h:isLetN c.toNat <;> rw [h]at hl
 ·cases h2:isDigN c.toNat <;> rw [h2]at hd
  ·go_enter Tryz.func199,Tryz.ntmps199
   go_wp2_with (first |(refine hl.mono ?_;clear hl;rintro e w' ⟨rfl,rfl⟩) |(refine hd.mono ?_;clear hd;rintro e w' ⟨rfl,rfl⟩) |(refine hi.mono ?_;clear hi;rintro e w' ⟨rfl,rfl⟩))
   all_goals go_ret
   all_goals (refine ⟨ret_bool ?_,rfl⟩)
   all_goals (have hk:tokN c=decide (0≤r):=by(unfold tokN;rw [h,h2,Bool.false_or,Bool.false_or,←HR.out,HF.out]))
   all_goals (first | exact hk.symm |(simp only [hk];simp;done) |(simp only [hk];simp;omega))
  ·go_enter Tryz.func199,Tryz.ntmps199
   go_wp2_with (first |(refine hl.mono ?_;clear hl;rintro e w' ⟨rfl,rfl⟩) |(refine hd.mono ?_;clear hd;rintro e w' ⟨rfl,rfl⟩))
   go_ret
   exact⟨ret_bool (by simp [tokN,h,h2]),rfl⟩
 ·go_enter Tryz.func199,Tryz.ntmps199
  go_wp2_with (first |(refine hl.mono ?_;clear hl;rintro e w' ⟨rfl,rfl⟩))
  go_ret
  exact⟨ret_bool (by simp [tokN,h]),rfl⟩
set_option maxHeartbeats 1000000 in
theorem msg_isToken (s:ByteArray) (w:World) (hs:s.size≤maxLen):
  Calls Tryz.prog 140 #[.string s] w fun e w'=>e= .returned (.bool (isTok s))∧w=w':=by
 unfold maxLen at hs
 go_enter Tryz.func140,Tryz.ntmps140
 go_wp2_with fail
 go_loop [6] (fun v=>∃ k:Nat,k≤s.size∧v= .int .i64 k∧Hid ((s.data.toList.take k).all tokN=true)) (fun v=>s.size -(intOf v).toNat)
 case atStart=>exact⟨0,Nat.zero_le _,rfl,hId rfl⟩
 case round=>
  obtain⟨k,hk,rfl,HR⟩:=hrel
  by_cases hlt:k<s.size
  ·have hkl:k<s.data.toList.length:=hlt
   have hg:s.data.toList[k]=s[k]:=rfl
   have HT:Hid ((s.data.toList.take (k+1)).all tokN=tokN s[k]):=hId (by rw [all_take hkl,HR.out,hg];rfl)
   have HF:Hid (tokN s[k]=false→s.data.toList.all tokN=false):=hId (fun h=>all_stop hkl (by rw [hg];exact h))
   have q:=msg_isTokenByte s[k] w
   clear hg
   cases hb:tokN s[k]
   ·rw [hb]at q
    have HB:=hId hb
    clear hb
    go_wp2_with fail
    refine q.mono ?_
    clear q
    rintro e w' ⟨rfl,rfl⟩
    go_wp2_with fail
    go_ret
    exact⟨ret_bool (by unfold isTok;rw [HF.out HB.out];rfl),rfl⟩
   ·rw [hb]at q
    have HB:=hId hb
    clear hb
    go_wp2_with fail
    refine q.mono ?_
    clear q
    rintro e w' ⟨rfl,rfl⟩
    go_wp2_with fail
    exact⟨⟨k+1,by omega,by go_num,hId (HT.out.trans HB.out)⟩,by simp [intOf];omega⟩
  ·obtain rfl:k=s.size:=by omega
   have hfull:s.data.toList.take s.size=s.data.toList:=List.take_length
   rw [hfull]at HR
   clear hfull
   by_cases h0:s.size=0
   ·have h1:(s.toList == [])=true:=by simpa using str_empty.1 h0
    have HB:Hid (isTok s=false):=hId (by unfold isTok;simp [h0])
    go_wp2_with fail
    all_goals go_ret
    all_goals exact⟨ret_bool HB.out.symm,rfl⟩
   ·have h1:(s.toList == [])=false:=by simpa using fun e=>h0 (str_empty.2 e)
    have HB:Hid (isTok s=decide ((s.size:Int)≤100)):=hId (by unfold isTok;rw [HR.out];simp [h0];omega)
    go_wp2_with fail
    all_goals go_ret
    all_goals (refine ⟨ret_bool ?_,rfl⟩)
    all_goals (rw [HB.out];try simp;try omega)
theorem asciiOne (c:UInt8) (h:c.toNat<128):∀(j:Nat) b,(⟨#[c]⟩:ByteArray).data.toList[j]? =some b→b.toNat<128:=fun j b e=>by
 have:=List.mem_of_getElem? e
 obtain rfl:b=c:=by simpa using this
 exact h
theorem trim_beq (s:ByteArray) (cs:List UInt8):((⟨(Lib.trimS s.data.toList cs).toArray⟩:ByteArray).toList == s.toList)=decide (Lib.trimS s.data.toList cs=s.data.toList):=by
 rw [ByteArray.toList_eq,ByteArray.toList_eq,Bool.eq_iff_iff]
 simp
set_option maxHeartbeats 1000000 in
theorem msg_isField (s:ByteArray) (w:World) (hs:s.size≤900000):
  Calls Tryz.prog 141 #[.string s] w fun e w'=>e= .returned (.bool (isFld s))∧New w w':=by
 have hr:=msg_isRange s 32 126 w (by unfold maxLen;omega)
 have ht:=fun W=>Tryz.strings_Trim_set s ⟨#[32]⟩ W (by omega) (by decide) (asciiOne 32 (by decide))
 have htb:=trim_beq s [32]
 have HF:Hid (isFld s=(decide (s.size≤2000)&&inR 32 126 s.data.toList&&decide (Lib.trimS s.data.toList [32]=s.data.toList))):=hId rfl
 simp only [List.toList_toArray]at ht
 generalize (⟨(Lib.trimS s.data.toList [32]).toArray⟩:ByteArray)=T at *
 generalize decide (Lib.trimS s.data.toList [32]=s.data.toList)=q at *
 generalize inR 32 126 s.data.toList=p at *
 have HT:=hId ht
 clear ht
 by_cases h1:s.size≤2000
 ·have h2:decide (s.size≤2000)=true:=by simpa using h1
  rw [h2,Bool.true_and]at HF
  have h3:(s.size:Int)≤2000:=by omega
  clear h1 h2
  cases p
  ·go_enter Tryz.func141,Tryz.ntmps141
   go_wp2_with fail
   refine hr.mono ?_
   clear hr
   rintro e w' ⟨rfl,rfl⟩
   go_wp2_with fail
   go_ret
   exact⟨ret_bool HF.out.symm,Mod.refl _ _⟩
  ·go_enter Tryz.func141,Tryz.ntmps141
   go_wp2_with fail
   refine hr.mono ?_
   clear hr
   rintro e w' ⟨rfl,rfl⟩
   have ht:=HT.out w
   go_wp2_with fail
   refine ht.mono ?_
   clear ht
   rintro e w2 ⟨rfl,hm2⟩
   have HM2:=hId hm2
   clear hm2
   go_wp2_with fail
   go_ret
   exact⟨ret_bool (by rw [HF.out,Bool.true_and]),Mod.of_below HM2.out⟩
 ·have h2:decide (s.size≤2000)=false:=by simpa using h1
  rw [h2,Bool.false_and,Bool.false_and]at HF
  have h3:¬ (s.size:Int)≤2000:=by omega
  clear h1 h2
  go_enter Tryz.func141,Tryz.ntmps141
  go_wp2_with fail
  go_ret
  exact⟨ret_bool HF.out.symm,Mod.refl _ _⟩
set_option maxHeartbeats 1000000 in
theorem msg_isLabel (s:ByteArray) (w:World) (hs:s.size≤maxLen):
  Calls Tryz.prog 243 #[.string s] w fun e w'=>e= .returned (.bool (labOk s.data.toList))∧w=w':=by
 unfold maxLen at hs
 go_enter Tryz.func243,Tryz.ntmps243
 go_wp2_with fail
 go_loop [6] (fun v=>∃ k:Nat,k≤s.size∧v= .int .i64 k∧Hid ((s.data.toList.take k).all labC=true)) (fun v=>s.size -(intOf v).toNat)
 case atStart=>exact⟨0,Nat.zero_le _,rfl,hId rfl⟩
 case round=>
  obtain⟨k,hk,rfl,HR⟩:=hrel
  by_cases hlt:k<s.size
  ·have hkl:k<s.data.toList.length:=hlt
   have hg:s.data.toList[k]=s[k]:=rfl
   have HT:Hid ((s.data.toList.take (k+1)).all labC=labC s[k]):=hId (by rw [all_take hkl,HR.out,hg];rfl)
   have HF:Hid (labC s[k]=false→labOk s.data.toList=false):=hId (fun h=>by unfold labOk;rw [all_stop hkl (by rw [hg];exact h)];rfl)
   have ql:=msg_isLetter s[k].toNat w
   have qd:=msg_isDigit s[k].toNat w
   have HC:Hid (labC s[k]=(isLetN s[k].toNat||isDigN s[k].toNat||decide (s[k]=45))):=hId rfl
   clear hg
   cases h1:isLetN s[k].toNat <;> rw [h1]at ql
   ·cases h2:isDigN s[k].toNat <;> rw [h2]at qd
    ·by_cases h3:s[k].toNat=45
     ·have h4:(((s[k].toNat:Int)) != 45)=false:=by simp;omega
      have HB:Hid (labC s[k]=true):=hId (by rw [HC.out,h1,h2];simp;exact UInt8.toNat_inj.1 (by simpa using h3))
      clear h1 h2 h3
      go_wp2_with (first |(refine ql.mono ?_;clear ql;rintro e w' ⟨rfl,rfl⟩) |(refine qd.mono ?_;clear qd;rintro e w' ⟨rfl,rfl⟩))
      exact⟨⟨k+1,by omega,by go_num,hId (HT.out.trans HB.out)⟩,by simp [intOf];omega⟩
     ·have h4:(((s[k].toNat:Int)) != 45)=true:=by simp;omega
      have HB:Hid (labC s[k]=false):=hId (by rw [HC.out,h1,h2];simp;intro e;rw [e]at h3;exact h3 rfl)
      clear h1 h2 h3
      go_wp2_with (first |(refine ql.mono ?_;clear ql;rintro e w' ⟨rfl,rfl⟩) |(refine qd.mono ?_;clear qd;rintro e w' ⟨rfl,rfl⟩))
      go_ret
      exact⟨ret_bool (HF.out HB.out).symm,rfl⟩
    ·have HB:Hid (labC s[k]=true):=hId (by rw [HC.out,h1,h2];rfl)
     clear h1 h2
     go_wp2_with (first |(refine ql.mono ?_;clear ql;rintro e w' ⟨rfl,rfl⟩) |(refine qd.mono ?_;clear qd;rintro e w' ⟨rfl,rfl⟩))
     exact⟨⟨k+1,by omega,by go_num,hId (HT.out.trans HB.out)⟩,by simp [intOf];omega⟩
   ·have HB:Hid (labC s[k]=true):=hId (by rw [HC.out,h1];rfl)
    clear h1
    go_wp2_with (first |(refine ql.mono ?_;clear ql;rintro e w' ⟨rfl,rfl⟩) |(refine qd.mono ?_;clear qd;rintro e w' ⟨rfl,rfl⟩))
    exact⟨⟨k+1,by omega,by go_num,hId (HT.out.trans HB.out)⟩,by simp [intOf];omega⟩
  ·obtain rfl:k=s.size:=by omega
   have hfull:s.data.toList.take s.size=s.data.toList:=List.take_length
   rw [hfull]at HR
   clear hfull
   by_cases h0:s.size=0
   ·have h1:(s.toList == [])=true:=by simpa using str_empty.1 h0
    have HB:Hid (labOk s.data.toList=false):=hId (by
     have:s.data.toList= []:=List.eq_nil_of_length_eq_zero h0
     rw [this];rfl)
    go_wp2_with fail
    all_goals go_ret
    all_goals exact⟨ret_bool HB.out.symm,rfl⟩
   ·have h1:(s.toList == [])=false:=by simpa using fun e=>h0 (str_empty.2 e)
    have HB:Hid (labOk s.data.toList=(decide (s.size≤63)&&decide (s[0].toNat≠45)&&decide (s[s.size -1].toNat≠45))):=hId (by
     have hl:s.data.toList.length=s.size:=rfl
     have e1:s.data.toList.head? =some s[0]:=by
      rw [List.head?_eq_getElem?,List.getElem?_eq_getElem (by omega)];rfl
     have e2:s.data.toList.getLast? =some s[s.size -1]:=by
      rw [List.getLast?_eq_getElem?,List.getElem?_eq_getElem (by omega)];rfl
     have e3:∀ c:UInt8,decide (some c≠some (45:UInt8))=decide (c.toNat≠45):=fun c=>by
      rw [decide_eq_decide]
      simp [← UInt8.toNat_inj]
     unfold labOk
     rw [HR.out,e1,e2,e3,e3,hl,Bool.true_and]
     have:decide (s.data.toList≠[])=true:=by
      simp only [decide_eq_true_eq]
      intro e
      rw [e]at hl
      simp at hl
      omega
     rw [this,Bool.true_and])
    have hp0:0<s.size:=by omega
    have hpl:s.size -1<s.size:=by omega
    by_cases h63:s.size≤63
    ·have h63':(s.size:Int)≤63:=by omega
     by_cases ha:s[0].toNat=45
     ·have ha':((s[0].toNat:Int) != 45)=false:=by simp;omega
      have hr:labOk s.data.toList=false:=by rw [HB.out];simp [ha]
      have HRR:=hId hr
      clear hr ha h63 HB
      go_wp2_with fail
      all_goals go_ret
      all_goals exact⟨ret_bool HRR.out.symm,rfl⟩
     ·have ha':((s[0].toNat:Int) != 45)=true:=by simp;omega
      have hl1:((s.size:Int) -1).toNat=s.size -1:=by omega
      have hl2:(0:Int)≤(s.size:Int) -1:=by omega
      have hl3:((s.size:Int) -1)<s.size:=by omega
      go_wp2_with fail
      go_ret
      refine⟨ret_bool ?_,rfl⟩
      rw [HB.out,decide_eq_true h63,decide_eq_true ha,Bool.eq_iff_iff]
      simp
      omega
    ·have h63':¬ (s.size:Int)≤63:=by omega
     have hr:labOk s.data.toList=false:=by rw [HB.out];simp [h63]
     have HRR:=hId hr
     clear hr h63 HB
     go_wp2_with fail
     all_goals go_ret
     all_goals exact⟨ret_bool HRR.out.symm,rfl⟩
theorem only_all {t:ByteArray} {p:UInt8→Bool} (h:∀ c,decide (0≤Lib.indexByte t.data.toList c)=p c) (s:ByteArray):onlyTo s t s.size=s.data.toList.all p:=by
 have key:∀ k,k≤s.size→onlyTo s t k=(s.data.toList.take k).all p:=by
  intro k
  induction k with
  | zero=>intro _;rfl
  | succ k ih=>
   intro hk
   have hkl:k<s.data.toList.length:=by show k<s.size;omega
   have hg:s[k]?.getD 0=s.data.toList[k]:=by
    have:k<s.size:=by omega
    simp [this]
    rfl
   rw [onlyTo_succ,ih (by omega),all_take hkl,hg,h]
 rw [key s.size (Nat.le_refl _)]
 have hfull:s.data.toList.take s.size=s.data.toList:=List.take_length
 rw [hfull]
set_option maxHeartbeats 1000000 in
theorem ref_token (s:ByteArray) (w:World) (hs:s.size≤900000):
  Calls Tryz.prog 39 #[.string s] w fun e w'=>e= .returned (.bool (isTok s))∧w=w':=by
 have ho:=ref_only s tokB w (by unfold maxLen;omega)
 rw [only_all tok_at]at ho
 have HT:Hid (isTok s=(s.data.toList.all tokN&&decide (s.size≠0)&&decide (s.size≤100))):=hId rfl
 generalize s.data.toList.all tokN=q at *
 unfold tokB at ho
 have HO:=hId ho
 clear ho
 go_enter Tryz.func39,Tryz.ntmps39
 go_wp2_with fail
 refine(ref2_in _ _ _ _).mono ?_
 rintro e w' ⟨rfl,rfl⟩
 by_cases h1:1≤s.size∧s.size≤100
 ·have e1:(decide (1≤(s.size:Int))&&decide ((s.size:Int)≤100))=true:=by simp;omega
  rw [e1]
  have ho:=HO.out
  go_wp2_with fail
  refine ho.mono ?_
  rintro e w' ⟨rfl,rfl⟩
  go_wp2_with fail
  go_ret
  refine⟨ret_bool ?_,rfl⟩
  rw [HT.out,decide_eq_true (show s.size≠0 by omega),decide_eq_true h1.2,Bool.and_true,Bool.and_true]
 ·have e1:(decide (1≤(s.size:Int))&&decide ((s.size:Int)≤100))=false:=by simp;omega
  rw [e1]
  go_wp2_with fail
  go_ret
  refine⟨ret_bool ?_,rfl⟩
  rw [HT.out]
  by_cases h2:s.size=0
  ·simp [h2]
  ·have h3:¬ s.size≤100:=by omega
   simp [h3]
set_option maxHeartbeats 1000000 in
theorem ref_visible (s:ByteArray) (lo:Nat) (w:World) (hs:s.size≤maxLen):
  Calls Tryz.prog 102 #[.string s,.int .u8 (lo:Int)] w fun e w'=>e= .returned (.bool (inR lo 126 s.data.toList))∧w=w':=by
 unfold maxLen at hs
 go_enter Tryz.func102,Tryz.ntmps102
 go_wp2_with fail
 go_loop [8] (fun v=>∃ k:Nat,k≤s.size∧v= .int .i64 k∧Hid (inR lo 126 (s.data.toList.take k)=true)) (fun v=>s.size -(intOf v).toNat)
 case atStart=>exact⟨0,Nat.zero_le _,rfl,hId rfl⟩
 case round=>
  obtain⟨k,hk,rfl,HR⟩:=hrel
  by_cases hlt:k<s.size
  ·have hkl:k<s.data.toList.length:=hlt
   have hg:s.data.toList[k]=s[k]:=rfl
   have HT:Hid (inR lo 126 (s.data.toList.take (k+1))=(decide (lo≤s[k].toNat)&&decide (s[k].toNat≤126))):=hId (by have:=HR.out;unfold inR at *;rw [all_take hkl,this,hg];rfl)
   have HF:Hid ((decide (lo≤s[k].toNat)&&decide (s[k].toNat≤126))=false→inR lo 126 s.data.toList=false):=hId (fun h=>all_stop hkl (by rw [hg];exact h))
   clear hg
   by_cases hb:lo≤s[k].toNat∧s[k].toNat≤126
   ·have b1:¬ ((s[k].toNat:Int)<(lo:Int)):=by omega
    have b2:¬ ((126:Int)<(s[k].toNat:Int)):=by omega
    have HB:Hid ((decide (lo≤s[k].toNat)&&decide (s[k].toNat≤126))=true):=hId (by simp;omega)
    clear hb
    go_wp2_with fail
    exact⟨⟨k+1,by omega,by go_num,hId (HT.out.trans HB.out)⟩,by simp [intOf];omega⟩
   ·have HB:Hid ((decide (lo≤s[k].toNat)&&decide (s[k].toNat≤126))=false):=hId (by simp;omega)
    have hb':((s[k].toNat:Int)<(lo:Int))∨¬ ((s[k].toNat:Int)<(lo:Int))∧((126:Int)<(s[k].toNat:Int)):=by omega
    clear hb
    rcases hb' with b1 |⟨b1,b2⟩
    all_goals go_wp2_with fail
    all_goals go_ret
    all_goals exact⟨ret_bool (HF.out HB.out).symm,rfl⟩
  ·obtain rfl:k=s.size:=by omega
   have hfull:s.data.toList.take s.size=s.data.toList:=List.take_length
   rw [hfull]at HR
   clear hfull
   go_wp2_with fail
   go_ret
   exact⟨ret_bool HR.out.symm,rfl⟩
set_option maxHeartbeats 1000000 in
theorem ref_field (s:ByteArray) (w:World) (hs:s.size≤900000):
  Calls Tryz.prog 41 #[.string s] w fun e w'=>e= .returned (.bool (isFld s))∧New w w':=by
 have hr:=ref_visible s 32 w (by unfold maxLen;omega)
 have ht:=fun W=>Tryz.strings_Trim_set s ⟨#[32]⟩ W (by omega) (by decide) (asciiOne 32 (by decide))
 have htb:=trim_beq s [32]
 have HF:Hid (isFld s=(decide (s.size≤2000)&&inR 32 126 s.data.toList&&decide (Lib.trimS s.data.toList [32]=s.data.toList))):=hId rfl
 simp only [List.toList_toArray]at ht
 generalize (⟨(Lib.trimS s.data.toList [32]).toArray⟩:ByteArray)=T at *
 generalize decide (Lib.trimS s.data.toList [32]=s.data.toList)=q at *
 generalize inR 32 126 s.data.toList=p at *
 have HT:=hId ht
 clear ht
 by_cases h1:s.size≤2000
 ·have h2:decide (s.size≤2000)=true:=by simpa using h1
  rw [h2,Bool.true_and]at HF
  have h3:(s.size:Int)≤2000:=by omega
  clear h1 h2
  cases p
  ·go_enter Tryz.func41,Tryz.ntmps41
   go_wp2_with fail
   refine hr.mono ?_
   clear hr
   rintro e w' ⟨rfl,rfl⟩
   go_wp2_with fail
   go_ret
   exact⟨ret_bool HF.out.symm,Mod.refl _ _⟩
  ·go_enter Tryz.func41,Tryz.ntmps41
   go_wp2_with fail
   refine hr.mono ?_
   clear hr
   rintro e w' ⟨rfl,rfl⟩
   have ht:=HT.out w
   go_wp2_with fail
   refine ht.mono ?_
   clear ht
   rintro e w2 ⟨rfl,hm2⟩
   have HM2:=hId hm2
   clear hm2
   go_wp2_with fail
   go_ret
   exact⟨ret_bool (by rw [HF.out,Bool.true_and]),Mod.of_below HM2.out⟩
 ·have h2:decide (s.size≤2000)=false:=by simpa using h1
  rw [h2,Bool.false_and,Bool.false_and]at HF
  have h3:¬ (s.size:Int)≤2000:=by omega
  clear h1 h2
  go_enter Tryz.func41,Tryz.ntmps41
  go_wp2_with fail
  go_ret
  exact⟨ret_bool HF.out.symm,Mod.refl _ _⟩
end Go.Proofs.YtnlloaimplgjnaaGreatDoor
