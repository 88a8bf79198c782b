/- Several texts in one. (1) The bytes that a text's units stand for (gateref2.bytesOf); append of a text onto bytes of one's own. Conditions: a text of modest size; the library's variable ErrSyntax holds an error or nil. (2) The library's iterator that goes backward over a row of texts (slices.Backward): its contract. Conditions: at most 1000000 texts. (3) Segments written as a path (route.pathOf, gateref1.joined, message.JoinPath). Conditions: texts of modest size. (4) The segments of a path (package message: Segments). Conditions: a text of modest size; the library's variable on searching is an int. (5) What the reference's loop over an iterator keeps (gateref2.PathOf): the plain law and the invariant. No conditions. -/
import Derived.Test.YtnlloaimplgjnaaGreatDoorNrm0Grp
import Derived.Test.YtnlloaimplgjnaaGreatDoorTplR2Grp
import Derived.Lib.AppendStr
import Derived.RangeFuncNested
import Derived.RangeFuncBound
import Derived.RangeFuncCalls
import Derived.RangeFuncLeaves
import Derived.RangeFuncWrites
import Derived.Shelf.Abstract
import Derived.Shelf.RegionOpen
import Derived.WalkKit
import Derived.OwnWalkIn
import Derived.TacticsInMore
import Derived.LoopNIn
import Derived.LoopIn
import Derived.Test.YtnlloaimplgjnaaGreatDoorMatLawGrp
import Derived.Test.YtnlloaimplgjnaaGreatDoorNormGrp
import Derived.Test.YtnlloaimplgjnaaGreatDoorHeldGrp
namespace Go.Proofs.YtnlloaimplgjnaaGreatDoor
open Go.RowKit
set_option linter.unusedVariables false
set_option linter.unusedSimpArgs false
theorem strCells_enc (s:ByteArray):Lib.strCells s=s.data.toList.flatMap (encL 1 bEnc):=by
 unfold Lib.strCells
 rw [List.flatMap_def]
 induction s.data.toList with
 | nil=>rfl
 | cons c l ih=>simp only [List.map_cons,List.flatten_cons];rw [← ih];rfl
/-- append of a text's bytes -/
theorem wpList_pushStr {ops:Array Oper} {rest:List Oper} {o:Oper} {a:Act} {w:World} {Q:Exit→Act→World→Prop} {B:Nat} {A:Option Addr} {n c:Nat} {l:List UInt8} (hgd:o.guard=none) (sl x:Operand)
  (ho:o.op= .call {callee:=.builtin .append,args:=#[sl,x],argTypes:=#[107,9]}) (hs:a.eval sl= .slice A n c) (hown:Own w B 5 1 bEnc A n c l) (s:ByteArray) (hx:a.eval x= .string s)
  (hn:n+s.size≤1000000) (hB:B≤w.heap.size)
  (h:∀ A' c' w',Own w' B 5 1 bEnc A' (n+s.size) c' (l++s.data.toList)→Mod (fun k=>blkOf A=some k) w w'→wpList Tryz.prog ops Q rest (a.put o.dst (.slice A' (n+s.size) c')) w'):wpList Tryz.prog ops Q (o::rest) a w:=by
 obtain⟨i,z,hi0,hz,hsz,hby,hzs,h0⟩:=einfo_byte
 have hz':i.zero=some (.int .u8 0):=by
  have e:(Tryz.prog.info? 5).map (fun i=>i.zero)=some (some (.int .u8 0)):=by kernel_rfl
  rw [hi0]at e
  simpa using e
 refine Lib.wpList_append_own_string (P:=Tryz.prog) w hgd sl x 107 9 ho B 5 i Tryz.underlying107 Tryz.underlying9 hi0 hz' hsz hby _ n _ hs hown.2 s hx (by unfold maxLen;omega) (by omega) hB ?_
 intro v' w' hown' hg _
 rw [ownBlock_eq]at hg
 have hm:Mod (fun k=>blkOf A=some k) w w':=(Mod.refl (fun k=>blkOf A=some k) w).grown hg (fun k e=>.inl e)
 have hl:(l++s.data.toList).length=n+s.size:=by rw [List.length_append,hown.1];rfl
 rw [strCells_enc,←List.flatMap_append]at hown'
 rcases hown'.2 with⟨rfl,hz0⟩ |⟨g,cap,cur,rfl,hr⟩
 ·have e:n+s.size=0:=hz0
  have hh:=h none 0 w' ⟨hl,by rw [e];rw [e]at hown';exact hown'⟩ hm
  rw [e]at hh
  exact hh
 ·exact h _ _ w' ⟨hl,hown'⟩ hm
set_option maxRecDepth 100000 in
set_option maxHeartbeats 1000000 in
theorem ref2_bytesOf (s:ByteArray) (w:World) (hs:s.size≤300000) (he:ErrSyn w):
  Calls Tryz.prog 122 #[.string s] w fun e w'=>e= .returned (.string (decB s))∧New w w':=by
 have hu:=ref2_units s w hs he
 have HD:Hid (decB s=⟨(((unitsL s.data.toList).getD []).map Prod.fst).toArray⟩):=hId (by
  unfold decB
  rw [decL_units _ _ (Nat.le_refl _)]
  cases unitsL s.data.toList <;> rfl)
 have hul:((unitsL s.data.toList).getD []).length≤300000:=by
  cases h:unitsL s.data.toList with
  | none=>simp
  | some u=>
   have:=unitsL_length _ _ u (Nat.le_refl _) h
   have e:s.data.toList.length=s.size:=rfl
   simp only [Option.getD_some]
   omega
 generalize unitsL s.data.toList=q at *
 unfold RUnits at hu
 generalize q.getD []=us at *
 go_enter Tryz.func122,Tryz.ntmps122
 go_wp2_with fail
 refine hu.mono ?_
 clear hu
 rintro e w1 ⟨A,n,c,rfl,hsl,hm,hn9⟩
 have HUS:=hId hsl
 have HM:=hId hm
 have hnl:us.length=n:=hsl.1
 obtain⟨BB,hBB⟩:∃ BB,BB=w1.heap.size:=⟨_,rfl⟩
 have HBW:Hid (w.heap.size≤BB):=hId (by rw [hBB];exact hm.size)
 have HW1:Hid (New w1 w1):=hId (Mod.refl _ _)
 have hB1:BB≤w1.heap.size:=by omega
 have HNL:=hId hnl
 have hn3:n≤300000:=by omega
 clear hsl hm hnl hul
 go_wp2_with fail
 go_loopw [5,15] (fun o i wr=>∃(k:Nat) (A':Option Addr) (c':Nat),k≤n∧i= .int .i64 k∧o= .slice A' k c'∧Hid (Own wr BB 5 1 bEnc A' k c' ((us.map Prod.fst).take k))∧Hid (New w1 wr)∧BB≤wr.heap.size) (fun _ i _=>n -(intOf i).toNat)
 case atStart=>exact⟨0,none,0,Nat.zero_le _,rfl,rfl,hId (by rw [List.take_zero];exact Own.nil),HW1,hB1⟩
 case round=>
  clear HW1 hB1
  rename World=>wr
  obtain⟨k,A',c',hk,rfl,rfl,HO,HW,hBw⟩:=hrel
  by_cases hlt:k<n
  ·have hkl:k<us.length:=by have:=HNL.out;omega
   obtain⟨g,o,hA,ht,hc⟩:=(HUS.out.new HW.out).2 (by omega)
   subst hA
   have a0:=hc k hkl 0 (by omega)
   have a1:=hc k hkl 1 (by omega)
   have hgl:=ht.lt
   have htk:(us.map Prod.fst).take (k+1)=(us.map Prod.fst).take k++ [us[k].1]:=by
    rw [List.take_succ_eq_append_getElem (by simpa using hkl)]
    simp
   have hb1:(0:Int)≤k:=by omega
   have hb2:(k:Int)<n:=by omega
   clear hc ht
   generalize us[k]=x at *
   obtain⟨xc,xp⟩:=x
   simp only [unitEnc,Nat.add_zero]at a0 a1
   simp only at htk
   have HTK:=hId htk
   have hbx:=Blk.new wr 157 #[.int .u8 (xc.toNat:Int),.bool xp]
   have hmx:New wr (wr.alloc (.cells #[.int .u8 (xc.toNat:Int),.bool xp] 157)):=(Mod.refl _ _).alloc _
   have HOA:=hId (HO.out.new hmx)
   have HWA:=hId (HW.out.trans hmx)
   have HOF:Hid (∀ g',blkOf A'=some g'→BB≤g'):=hId (fun g' e=>HO.out.farS g' e)
   have hza:=hmx.size
   clear htk hmx HO HW hbx
   go_upto_region 6 with fail
   have p0:(wr.alloc (.cells #[.int .u8 (xc.toNat:Int),.bool xp] 157)).cell? ⟨wr.heap.size,0,none⟩=some (.int .u8 (xc.toNat:Int)):=(Blk.new wr 157 #[.int .u8 (xc.toNat:Int),.bool xp]).cell 0
   have pl:=(Blk.new wr 157 #[.int .u8 (xc.toNat:Int),.bool xp]).lt
   generalize wr.alloc (.cells #[.int .u8 (xc.toNat:Int),.bool xp] 157)=wA at *
   generalize wr.heap.size=xb at *
   have hBq:BB≤(wA.alloc (.cells #[.int .u8 (xc.toNat:Int)] 5)).heap.size:=by simp;omega
   have HOB:=HOA.out.alloc (.cells #[.int .u8 (xc.toNat:Int)] 5)
   have hBn:=Blk.new wA 5 #[.int .u8 (xc.toNat:Int)]
   go_wp2_with (at_builtin;refine wpList_push rfl _ _ _ rfl 1 Tryz.underlying107 einfo_byte rfl HOB xc wA.heap.size rfl hBn (fun j hj=>bEnc_one _ j hj) (by omega) (by omega) hBq ?_;intro g8 cap8 w8 own8 hm8 hat8 hlt8)
   have HO8:Hid (Own w8 BB 5 1 bEnc (some ⟨g8,0,none⟩) (k+1) cap8 ((us.map Prod.fst).take (k+1))):=hId (by rw [HTK.out];exact own8)
   have HW8:Hid (New w1 w8):=hId ((HWA.out.alloc (.cells #[.int .u8 (xc.toNat:Int)] 5)).step hm8 (fun i hi e=>by have:=HOF.out i e;omega))
   have hB8:BB≤w8.heap.size:=by have:=hm8.size;omega
   clear own8 hm8
   go_roundw
   case rel=>exact⟨k+1,some ⟨g8,0,none⟩,cap8,by omega,by go_num,rfl,HO8,HW8,hB8⟩
   case measure=>simp [intOf];omega
  ·obtain rfl:k=n:=by omega
   have hfull:(us.map Prod.fst).take k=us.map Prod.fst:=List.take_of_length_le (by have:=HNL.out;simp;omega)
   have ho:=HO.out
   rw [hfull]at ho
   have hcv:=own_string ho
   have HN:Hid (New w wr):=hId (HM.out.trans HW.out)
   clear ho hfull
   go_wp2_with fail
   go_ret
   exact⟨by rw [HD.out];rfl,HN.out⟩
end Go.Proofs.YtnlloaimplgjnaaGreatDoor
namespace Go.Proofs.YtnlloaimplgjnaaGreatDoor
open Go.RowKit Go.Shelf
set_option linter.unusedVariables false
set_option linter.unusedSimpArgs false
attribute [local go_sem] Oper.semAt_some
/-- what has come when k rounds are over -/
def upto {α:Type} (f:Nat→α) (k:Nat):List α:=(List.range k).map f
theorem upto_succ {α:Type} (f:Nat→α) (k:Nat):upto f (k+1)=upto f k++ [f k]:=by simp [upto,List.range_succ]
theorem upto_length {α:Type} (f:Nat→α) (k:Nat):(upto f k).length=k:=by simp [upto]
/-- blocks b and d are as they were -/
def Kept2 (b d:Nat) (W W':World):Prop:=W'.heap[b]? =W.heap[b]?∧W'.heap[d]? =W.heap[d]?
theorem Kept2.refl (b d:Nat) (W:World):Kept2 b d W W:=⟨rfl,rfl⟩
theorem Kept2.trans {b d:Nat} {A B C:World} (h:Kept2 b d A B) (k:Kept2 b d B C):Kept2 b d A C:=⟨k.1.trans h.1,k.2.trans h.2⟩
/-- the place and the text that come in round j -/
def backF (len:Nat) (zs:List ByteArray) (j:Nat):Nat×ByteArray:=(len -1 -j,zs[len -1 -j]?.getD ⟨#[]⟩)
set_option maxRecDepth 100000 in
set_option maxHeartbeats 1000000 in
theorem back1_in (F:Fence) (n:Nat) (hF:F.fn 191) (hro:F.round=none) (hn:1≤n) (l Bs b off len cap:Nat) (zs:List ByteArray) (hlen:len≤1000000) (J Jx:List (Nat×ByteArray)→World→Prop)
  (hY:∀ pre x W,J pre W→pre.length<len→YieldAt F (n -1) Tryz.prog l #[.int .i64 (x.1:Int),.string x.2] W fun e W'=>
   (e= .returned (.bool true)∧J (pre++ [x]) W'∧Kept2 b Bs W W')∨(e= .returned (.bool false)∧Jx (pre++ [x]) W'))
  (W:World) (hBs:W.cell? ⟨Bs,0,none⟩=some (.slice (some ⟨b,off,none⟩) len cap)) (hc:∀ j,j<len→W.cell? ⟨b,off+j,none⟩=some (.string (zs[j]?.getD ⟨#[]⟩))) (h0:J [] W):
  CallsIn F n Tryz.prog 191 #[.func (.yield l) #[] #[],.pointer (some ⟨Bs,0,none⟩)] W fun e W'=>(∃ v,e= .returned v)∧
   ((∃ ys,ys=upto (backF len zs) len∧J ys W')∨(∃ pre,(∃ k,k≤len∧pre=upto (backF len zs) k)∧Jx pre W')):=by
 refine callsIn_of_wp Tryz.func191 rfl hF ?_ hro
 simp only [Tryz.ntmps191,List.size_toArray,List.length_cons,List.length_nil,Nat.reduceAdd,Nat.reduceSub,Array.replicate_succ,Array.replicate_zero,List.push_toArray,List.append_toArray,List.nil_append,List.cons_append]
 gi_wp2
 gi_loopw [3] (fun i wr=>∃(k:Nat) (z:Int),k≤len∧i= .int .i64 z∧z+1+k=len∧J (upto (backF len zs) k) wr∧Kept2 b Bs W wr)
  (fun i _=>(intOf i+1).toNat)
 case atStart=>exact⟨0,_,Nat.zero_le _,rfl,by omega,h0,Kept2.refl _ _ _⟩
 case round=>
  obtain⟨k,z,hk,rfl,hz,hJs,hkp⟩:=hrel
  have hBx:wr.cell? ⟨Bs,0,none⟩=some (.slice (some ⟨b,off,none⟩) len cap):=by rw [← hBs];simp only [World.cell?,hkp.2]
  by_cases hlt:k<len
  ·have hz0:0≤z:=by omega
   obtain⟨m,rfl⟩:=Int.eq_ofNat_of_zero_le hz0
   have hml:m<len:=by omega
   have hmi:(m:Int)<(len:Int):=by omega
   have hcx:wr.cell? ⟨b,off+m,none⟩=some (.string (zs[m]?.getD ⟨#[]⟩)):=by rw [← hc m hml];simp only [World.cell?,hkp.1]
   have hfk:backF len zs k=(m,zs[m]?.getD ⟨#[]⟩):=by
    unfold backF
    have:len -1 -k=m:=by omega
    rw [this]
   obtain⟨fn,tmps,assign,body,hy,hR⟩:=hY _ (m,zs[m]?.getD ⟨#[]⟩) wr hJs (by rw [upto_length];exact hlt)
   dsimp only at hy
   gi_wp2
   refine hR.mono ?_
   rintro e W3 (⟨rfl,hJ3,hk3⟩ |⟨rfl,hJx3⟩)
   ·gi_wp2
    go_roundw
    case rel=>exact⟨k+1,_,by omega,rfl,by omega,by rw [upto_succ,hfk];exact hJ3,hkp.trans hk3⟩
    case measure=>first |(simp [intOf];done) |(simp [intOf];omega)
   ·gi_wp2
    refine bodyPost_ret (results_none rfl _ _ _) rfl ?_
    exact⟨⟨_,rfl⟩,.inr ⟨_,⟨k+1,by omega,by rw [upto_succ,hfk]⟩,hJx3⟩⟩
  ·obtain rfl:k=len:=by omega
   have hz1:z= -1:=by omega
   subst hz1
   gi_wp2
   go_end0
   exact⟨⟨_,rfl⟩,.inl ⟨_,rfl,hJs⟩⟩
theorem back_stops (F:Fence) (n:Nat) (hF:F.fn 191) (hro:F.round=none) (hn:1≤n) (Bs b off len cap:Nat) (zs:List ByteArray) (hlen:len≤1000000) (w:World) (hBl:Bs<w.heap.size) (hbl:b<w.heap.size)
  (hBs:w.cell? ⟨Bs,0,none⟩=some (.slice (some ⟨b,off,none⟩) len cap)) (hc:∀ j,j<len→w.cell? ⟨b,off+j,none⟩=some (.string (zs[j]?.getD ⟨#[]⟩))):
  SeqStopsK F n Tryz.prog 191 #[.pointer (some ⟨Bs,0,none⟩)] (fun x:Nat×ByteArray=>#[Value.int .i64 (x.1:Int),Value.string x.2]) (Kept2 b Bs) (fun ys=>ys=upto (backF len zs) len)
   (fun pre=>∃ k,k≤len∧pre=upto (backF len zs) k) len w:=fun l J Jx W hW _ _ hY h0=>
 back1_in F n hF hro hn l Bs b off len cap zs hlen J Jx hY W ((hW.cell (p:=⟨Bs,0,none⟩) hBl).trans hBs) (fun j hj=>(hW.cell (p:=⟨b,off+j,none⟩) hbl).trans (hc j hj)) h0
theorem kept2_b {b d:Nat} {w:World} (hb:b<w.heap.size) (hd:d<w.heap.size) (W:World) (l:Nat) (o o':Obj) (hl:w.heap.size≤l) (h:W.heap[l]? =some o) (_:o.isCells=false) (_:o.isWalk=false):Kept2 b d W (W.putObj l o'):=
 ⟨World.putObj_heap_other (by omega),World.putObj_heap_other (by omega)⟩
set_option maxHeartbeats 1000000 in
theorem backward_any (A:Option Addr) (n c:Nat) (w:World):
  Calls Tryz.prog 125 #[.slice A n c] w fun e w'=>e= .returned (.func (.func 191) #[] #[.pointer (some ⟨w.heap.size,0,none⟩)])∧w'=w.alloc (.cells #[.slice A n c] 26):=by
 go_enter Tryz.func125,Tryz.ntmps125
 go_wp2_with fail
 go_ret
 exact⟨rfl,rfl⟩
abbrev SSl (w:World) (A:Option Addr) (n:Nat) (l:List ByteArray):Prop:=Sl w 9 1 sEnc A n l
theorem pathT_take {l:List ByteArray} {k:Nat} (h:k<l.length):pathT (l.take (k+1))=pathT (l.take k)++(47::segL l[k].data.toList):=by
 unfold pathT
 rw [List.take_succ_eq_append_getElem h,List.flatMap_append]
 simp
theorem pathT_le (l:List ByteArray) (k:Nat):(pathT (l.take k)).length≤(pathT l).length:=by
 have:pathT l=pathT (l.take k)++pathT (l.drop k):=by
  unfold pathT
  rw [← List.flatMap_append,List.take_append_drop]
 rw [this,List.length_append]
 omega
theorem pathT_ge (l:List ByteArray):l.length≤(pathT l).length:=by
 induction l with
 | nil=>simp
 | cons x l ih=>unfold pathT at ih ⊢;rw [List.flatMap_cons,List.length_append,List.length_cons,List.length_cons];omega
/-- of modest size: what is written, and each segment -/
structure PFit (l:List ByteArray):Prop where
 t:(pathT l).length≤300000
 x:∀ x∈l,x.size≤100000
set_option maxRecDepth 100000 in
set_option maxHeartbeats 1500000 in
theorem route_pathOf (A:Option Addr) (n c:Nat) (l:List ByteArray) (w:World) (hs:SSl w A n l) (hf:PFit l):
  Calls Tryz.prog 88 #[.slice A n c] w fun e w'=>e= .returned (.string ⟨(pathT l).toArray⟩)∧New w w':=by
 have HL:=hId hs.1
 have hn:n≤300000:=by have h1:=pathT_ge l;have h2:=hf.t;have h3:=hs.1;omega
 have hb0:=Blk.new w 109 #[.pointer none,.slice none 0 0]
 have hm0:New w (w.alloc (.cells #[.pointer none,.slice none 0 0] 109)):=(Mod.refl _ _).alloc _
 have HS:=hId hs
 have HF:=hId hf
 clear hs hf
 go_enter Tryz.func88,Tryz.ntmps88
 go_upto_region 2 with(fail)
 generalize w.alloc (.cells #[.pointer none,.slice none 0 0] 109)=w1 at *
 generalize hbe:w.heap.size=B at *
 have HB:=hId (Bw.fresh hb0 (Nat.le_refl _))
 have HM:=hId hm0
 have HBE:=hId hbe
 clear hb0 hm0 hbe
 go_wp2_with fail
 go_loopw [8] (fun i wr=>∃ k:Nat,k≤n∧i= .int .i64 k∧Hid (Bw 109 B B (pathT (l.take k)) wr)∧Hid (New w wr)) (fun i _=>n -(intOf i).toNat)
 case atStart=>exact⟨0,Nat.zero_le _,rfl,HB,HM⟩
 case round=>
  clear HB HM
  rename World=>wr
  obtain⟨k,hk,rfl,HB,HM⟩:=hrel
  by_cases hlt:k<n
  ·have hkl:k<l.length:=by have:=HL.out;omega
   obtain⟨g,o,hA,ht,hc⟩:=(HS.out.new HM.out).2 (by omega)
   subst hA
   have a0:=hc k hkl 0 (by omega)
   have hst:=pathT_take hkl
   have hle:=pathT_le l (k+1)
   rw [hst]at hle
   have hft:=HF.out.t
   have hxz:=HF.out.x _ (List.getElem_mem hkl)
   have hgl:=ht.lt
   have hb1:(0:Int)≤k:=by omega
   have hb2:(k:Int)<n:=by omega
   simp only [sEnc,Nat.mul_one,Nat.add_zero]at a0
   clear hc ht
   generalize l[k]=x at *
   have hsl:=segL_length x.data.toList
   have hxl:x.data.toList.length=x.size:=rfl
   have hHT:Hid ((⟨(segL x.data.toList).toArray⟩:ByteArray).data.toList=segL x.data.toList):=hId rfl
   have hTs:(⟨(segL x.data.toList).toArray⟩:ByteArray).size=(segL x.data.toList).length:=by show(List.toArray _).size=_;simp
   rw [List.length_append,List.length_cons]at hle
   have hsg:=fun W=>msg_segment x W (by omega)
   generalize (⟨(segL x.data.toList).toArray⟩:ByteArray)=T at *
   have e1:(⟨#[47]⟩:ByteArray).size=1:=rfl
   have hadd:¬ 9223372036854775807<(⟨#[47]⟩:ByteArray).size+T.size:=by omega
   have hsg:=hsg wr
   have hTs':T.size≤300000:=by omega
   have HTS:=hId hTs
   have HST:=hId hst
   have HLE:=hId hle
   clear hTs hst hle hsl hxl hft
   go_upto_region 5 with fail
   go_wp2_with fail
   refine hsg.mono ?_
   clear hsg
   rintro e w4 ⟨rfl,hm4⟩
   have HM4:Hid (New w w4):=hId (HM.out.trans hm4)
   have HB4:=hId (HB.out.new hm4)
   clear hm4 HM HB
   have HM:=HM4
   have HB:=HB4
   clear HM4 HB4
   go_wp2_with fail
   have hTs:=HTS.out
   have hst:=HST.out
   have hle:=HLE.out
   have hft:=HF.out.t
   obtain⟨U,hU⟩:∃ U:ByteArray,U=(⟨#[47]⟩:ByteArray)++T:=⟨_,rfl⟩
   have HUL:Hid (U.data.toList=47::segL x.data.toList):=hId (by rw [hU,cat_list,hHT.out];rfl)
   rw [← hU]
   have hUz:U.size=(segL x.data.toList).length+1:=by rw [hU,ByteArray.size_append];show 1+T.size=_;omega
   have hwr:=bw_string buT_self B B (pathT (l.take k)) U _ HB.out (by omega)
   clear hU hUz
   refine hwr.mono ?_
   clear hwr
   rintro e w5 ⟨rfl,hb5,hm5,-⟩
   have HM5:=hId (HM.out.from hm5 (Nat.le_of_eq HBE.out))
   have HB5:Hid (Bw 109 B B (pathT (l.take (k+1))) w5):=hId (by rw [hst,←HUL.out];exact hb5)
   clear hb5 hm5 HB HM hst hle hTs
   go_wp2_with fail
   go_roundw
   case rel=>exact⟨k+1,by omega,by go_num,HB5,HM5⟩
   case measure=>simp [intOf];omega
  ·obtain rfl:k=n:=by omega
   have HT:Hid (l.take k=l):=hId (List.take_of_length_le (by have:=HL.out;omega))
   have hst:=bw_any B B _ wr HB.out
   go_wp2_with (first |(refine hst.mono ?_;clear hst;rintro e w5 ⟨rfl,hm5⟩;have HM5:=hId (HM.out.from hm5 (Nat.le_of_eq HBE.out));clear hm5))
   go_ret
   exact⟨by rw [HT.out];rfl,HM5.out⟩
set_option maxRecDepth 100000 in
set_option maxHeartbeats 1500000 in
theorem ref1_joined (A:Option Addr) (n c:Nat) (l:List ByteArray) (w:World) (hs:SSl w A n l) (hf:PFit l):
  Calls Tryz.prog 192 #[.slice A n c] w fun e w'=>e= .returned (.string ⟨(pathT l).toArray⟩)∧New w w':=by
 have HL:=hId hs.1
 have hn:n≤300000:=by have h1:=pathT_ge l;have h2:=hf.t;have h3:=hs.1;omega
 have HS:=hId hs
 have HF:=hId hf
 clear hs hf
 go_enter Tryz.func192,Tryz.ntmps192
 go_wp2_with fail
 go_loopw [3,8] (fun o i wr=>∃(k:Nat) (out:ByteArray),k≤n∧i= .int .i64 k∧o= .string out∧Hid (out.data.toList=pathT (l.take k))∧Hid (New w wr)) (fun _ i _=>n -(intOf i).toNat)
 case atStart=>exact⟨0,⟨#[]⟩,Nat.zero_le _,rfl,rfl,hId rfl,hId (Mod.refl _ _)⟩
 case round=>
  rename World=>wr
  obtain⟨k,out,hk,rfl,rfl,HO,HM⟩:=hrel
  by_cases hlt:k<n
  ·have hkl:k<l.length:=by have:=HL.out;omega
   obtain⟨g,o,hA,ht,hc⟩:=(HS.out.new HM.out).2 (by omega)
   subst hA
   have a0:=hc k hkl 0 (by omega)
   have hst:=pathT_take hkl
   have hle:=pathT_le l (k+1)
   rw [hst]at hle
   have hft:=HF.out.t
   have hxz:=HF.out.x _ (List.getElem_mem hkl)
   have hgl:=ht.lt
   have hb1:(0:Int)≤k:=by omega
   have hb2:(k:Int)<n:=by omega
   simp only [sEnc,Nat.mul_one,Nat.add_zero]at a0
   clear hc ht
   generalize l[k]=x at *
   have hsl:=segL_length x.data.toList
   have hxl:x.data.toList.length=x.size:=rfl
   have hHT:Hid ((⟨(segL x.data.toList).toArray⟩:ByteArray).data.toList=segL x.data.toList):=hId rfl
   have hTs:(⟨(segL x.data.toList).toArray⟩:ByteArray).size=(segL x.data.toList).length:=by show(List.toArray _).size=_;simp
   rw [List.length_append,List.length_cons]at hle
   have hsg:=fun W=>ref_segmentText x W (by omega)
   generalize (⟨(segL x.data.toList).toArray⟩:ByteArray)=T at *
   have e1:(⟨#[47]⟩:ByteArray).size=1:=rfl
   have hadd:¬ 9223372036854775807<(⟨#[47]⟩:ByteArray).size+T.size:=by omega
   have hoz:out.size=(pathT (l.take k)).length:=by rw [← HO.out];rfl
   have hadd2:¬ 9223372036854775807<out.size+((⟨#[47]⟩:ByteArray)++T).size:=by rw [ByteArray.size_append];omega
   have HO1:Hid ((out++((⟨#[47]⟩:ByteArray)++T)).data.toList=pathT (l.take (k+1))):=hId (by rw [cat_list,cat_list,HO.out,hst,hHT.out];rfl)
   have hsg:=hsg wr
   clear hTs hst hle hsl hxl hft hoz HO
   go_upto_region 5 with fail
   go_wp2_with fail
   refine hsg.mono ?_
   clear hsg
   rintro e w4 ⟨rfl,hm4⟩
   have HM4:Hid (New w w4):=hId (HM.out.trans hm4)
   clear hm4 HM
   go_wp2_with fail
   go_roundw
   case rel=>exact⟨k+1,_,by omega,by go_num,rfl,HO1,HM4⟩
   case measure=>simp [intOf];omega
  ·obtain rfl:k=n:=by omega
   have HT:Hid (out=⟨(pathT l).toArray⟩):=hId (by
    have h:=HO.out
    rw [List.take_of_length_le (by have:=HL.out;omega)]at h
    rw [← h,mkList])
   go_wp2_with fail
   go_ret
   exact⟨by rw [← HT.out];rfl,HM.out⟩
/-- an error and strings handed back -/
def RSegs (q:Int×List ByteArray) (w:World) (e:Ending) (w':World):Prop:=∃ A n c,e= .returned (.tuple #[.slice A n c,.int .i64 q.1])∧SSl w' A n q.2∧New w w'∧n≤c
theorem RSegs.fault {q:Int×List ByteArray} {w w':World} {x:Int} (h:q=(x,[])) (hm:New w w'):RSegs q w (.returned (.tuple #[.slice none 0 0,.int .i64 x])) w':=
 ⟨none,0,0,by rw [h],by rw [h];exact Sl.nil,hm,Nat.le_refl _⟩
theorem pathN_small {s:ByteArray} (h:(pathN s).1=0):s.size≤1000:=by
 unfold pathN at h
 split at h
 ·rename_i h1;exact absurd h h1
 ·rename_i h1
  exact(pathBad_ok (Decidable.not_not.1 h1)).1
theorem segs_ok {s:ByteArray} (h:(segsOf s).1=0):(segsOf s).2.length≤100∧wtL (segsOf s).2≤3002:=by
 unfold segsOf at h ⊢
 split at h
 ·rename_i h1;exact absurd h h1
 ·rename_i h1
  rw [if_neg h1]
  have h0:=Decidable.not_not.1 h1
  obtain⟨t,ht,hl⟩:=pathN_ok h0 (pathN_small h0)
  split at h
  ·cases h
  ·rename_i h2
   rw [if_neg h2]
   refine⟨by rw [List.length_map];omega,?_⟩
   simp only
   rw [ht,List.drop_succ_cons,List.drop_zero]
   have h3:=decB_wt (pieces ⟨t.toArray⟩ slB)
   have h4:=pieces_wt _ (⟨t.toArray⟩:ByteArray) (Nat.le_refl _)
   have h5:(⟨t.toArray⟩:ByteArray).size=t.length:=by show(List.toArray _).size=_;simp
   omega
theorem PFit.of_wt {l:List ByteArray} {z:Nat} (h:wtL l≤z) (hz:z≤95000):PFit l:=⟨by have:=pathT_wt l;omega,fun x hx=>by have:=wtL_mem hx;omega⟩
/-- the first k are decoded -/
def mixL (segs:List ByteArray) (k:Nat):List ByteArray:=(segs.take k).map decB++segs.drop k
theorem mixL_zero (segs:List ByteArray):mixL segs 0=segs:=by simp [mixL]
theorem mixL_all (segs:List ByteArray):mixL segs segs.length=segs.map decB:=by simp [mixL]
theorem mixL_length (segs:List ByteArray) (k:Nat) (h:k≤segs.length):(mixL segs k).length=segs.length:=by
 simp only [mixL,List.length_append,List.length_map,List.length_take,List.length_drop];omega
theorem mixL_get {segs:List ByteArray} {k:Nat} (h:k<segs.length):(mixL segs k).getD k ByteArray.empty=segs[k]:=by
 unfold mixL
 rw [List.getD_eq_getElem?_getD,List.getElem?_append_right (by rw [List.length_map,List.length_take];omega),List.length_map,List.length_take,Nat.min_eq_left (by omega),Nat.sub_self,List.getElem?_drop,Nat.add_zero,List.getElem?_eq_getElem h]
 rfl
theorem mixL_set {segs:List ByteArray} {k:Nat} (h:k<segs.length):(mixL segs k).set k (decB segs[k])=mixL segs (k+1):=by
 unfold mixL
 have hl:((segs.take k).map decB).length=k:=by rw [List.length_map,List.length_take];omega
 rw [List.set_append_right _ _ (by omega),hl,Nat.sub_self,List.drop_eq_getElem_cons h,lsz,List.take_succ_eq_append_getElem h,List.map_append]
 simp
theorem strCs_set {segs:List ByteArray} {k:Nat} (h:k<segs.length):(strCs (mixL segs k)).setIfInBounds k (.string (decB segs[k]))=strCs (mixL segs (k+1)):=by
 unfold strCs
 rw [lzt,←mixL_set h,List.map_set]
theorem decV_eq (x:ByteArray):decV x.data.toList= .tuple #[.string (decB x),.bool (decL x.data.toList).isSome]:=by
 unfold decV decB
 cases decL x.data.toList <;> rfl
set_option maxRecDepth 100000 in
set_option maxHeartbeats 1500000 in
theorem msg_segments (s:ByteArray) (w:World) (hs:s.size≤100000) (hx:MaxLn w):
  Calls Tryz.prog 30 #[.string s] w (RSegs (segsOf s) w):=by
 have hp:=msg_normalPath s w hs hx
 by_cases h0:(pathN s).1=0
 rotate_left
 ·have HQ:Hid (segsOf s=((pathN s).1,[])):=hId (by unfold segsOf;rw [if_pos h0])
  generalize pathN s=q at *
  obtain⟨q1,q2⟩:=q
  simp only at h0 HQ
  have h0':((q1:Int) != 0)=true:=by simpa using h0
  clear h0
  go_enter Tryz.func30,Tryz.ntmps30
  go_wp2_with fail
  refine hp.mono ?_
  clear hp
  rintro e w1 ⟨rfl,hm⟩
  have HM:=hId hm
  clear hm
  simp only
  go_wp2_with fail
  go_ret2
  exact RSegs.fault HQ.out HM.out
 obtain⟨t,ht,htl⟩:=pathN_ok h0 (pathN_small h0)
 have hQ:segsOf s=if 100<(pieces ⟨t.toArray⟩ slB).length then(2,[]) else(0,(pieces ⟨t.toArray⟩ slB).map decB):=by
  unfold segsOf
  rw [if_neg (fun h=>h h0),ht]
  rfl
 unfold RTxt at hp
 rw [h0,ht]at hp
 have hext:=extract_tail t
 have hU:(⟨t.toArray⟩:ByteArray).size≤3001:=by
  show t.toArray.size≤3001
  simp only [List.size_toArray]
  omega
 have hZ1:1≤(⟨(47::t).toArray⟩:ByteArray).size:=by
  show 1≤(List.toArray (47::t)).size
  simp
 clear h0 ht htl
 generalize (⟨(47::t).toArray⟩:ByteArray)=Z at *
 generalize (⟨t.toArray⟩:ByteArray)=U at *
 have hZi:(1:Int)≤(Z.size:Int):=by omega
 have hpc:=pieces_count hU
 have hpl:=fun x (hx:x∈pieces U slB)=>Nat.le_trans (pieces_le hx) hU
 have HX:=hId hx
 have hsp:=fun W (h:New w W)=>split_any U 47 W (by omega) (HX.out.new h)
 have HSP:=hId hsp
 have HPL:=hId hpl
 have HQ:=hId hQ
 clear hsp hpl hQ hx
 go_enter Tryz.func30,Tryz.ntmps30
 go_wp2_with fail
 refine hp.mono ?_
 clear hp
 rintro e w2 ⟨rfl,hm2⟩
 have hsp:=HSP.out w2 hm2
 clear HSP
 go_wp2_with fail
 refine hsp.mono ?_
 clear hsp
 rintro e w3 ⟨rfl,rfl⟩
 have hmL:New w2 (w2.alloc (.cells (strCs (pieces U slB)) 9)):=(Mod.refl _ _).alloc _
 have hL:=Blk.new w2 9 (strCs (pieces U slB))
 have HLW:Hid (w.heap.size≤w2.heap.size):=hId hm2.size
 have HM:=hId (hm2.trans hmL)
 have HL:=hId hL
 clear hmL hL hm2 hext
 generalize pieces U slB=segs at *
 generalize w2.alloc (.cells (strCs segs) 9)=w4 at *
 generalize w2.heap.size=L at *
 by_cases h100:100<segs.length
 ·have h100':(100:Int)<(segs.length:Int):=by omega
  have HQ1:Hid (segsOf s=(2,[])):=hId (by rw [HQ.out,if_pos h100])
  go_wp2_with fail
  go_ret2
  exact RSegs.fault HQ1.out HM.out
 ·have h100':¬ (100:Int)<(segs.length:Int):=by omega
  have HQ1:Hid (segsOf s=(0,segs.map decB)):=hId (by rw [HQ.out,if_neg h100])
  have HL0:Hid (Blk w4 L 9 (strCs (mixL segs 0))):=hId (by rw [mixL_zero];exact HL.out)
  clear HQ HL
  go_wp2_with fail
  go_loopw [25] (fun i wr=>∃ k:Nat,k≤segs.length∧i= .int .i64 k∧Hid (Blk wr L 9 (strCs (mixL segs k)))∧Hid (New w wr)) (fun i _=>segs.length -(intOf i).toNat)
  case atStart=>exact⟨0,Nat.zero_le _,rfl,HL0,HM⟩
  case round=>
   clear HL0 HM
   rename World=>wr
   obtain⟨k,hk,rfl,HL,HM⟩:=hrel
   have hLr:=HL.out.lt
   by_cases hlt:k<segs.length
   ·have hce:=strs_at HL.out k (by rw [mixL_length _ _ hk];exact hlt)
    rw [mixL_get hlt]at hce
    have hst:=strCs_set hlt
    have hxz:=HPL.out _ (List.getElem_mem hlt)
    have hb1:(0:Int)≤k:=by omega
    have hb2:(k:Int)<segs.length:=by omega
    generalize segs[k]=x at *
    have hdc:=msg_decoded x wr (by omega)
    rw [decV_eq]at hdc
    have HST:=hId hst
    clear hst
    generalize decB x=y at *
    go_wp2_with fail
    refine hdc.mono ?_
    clear hdc
    rintro e w5 ⟨rfl,hm5⟩
    have HL5:=hId (HL.out.new2 hm5)
    have HM5:=hId (HM.out.trans hm5)
    have hc5:w5.cell? ⟨L,k,none⟩=some (.string x):=by rw [← hce];exact hm5.cell (p:=⟨L,k,none⟩) hLr (fun e=>e)
    have hf5:=HL5.out.frozen k
    have hl5:=HL5.out.lt
    have hs5:=HL5.out.set k (.string y)
    rw [HST.out]at hs5
    have HS5:=hId hs5
    have HM6:Hid (New w (w5.setCell ⟨L,k,none⟩ (.string y))):=hId (HM5.out.setCell (p:=⟨L,k,none⟩) (.inr HLW.out) _)
    clear hm5 HL HM hs5 hce
    go_wp2_with fail
    go_roundw
    case rel=>exact⟨k+1,by omega,by go_num,HS5,HM6⟩
    case measure=>simp [intOf];omega
   ·obtain rfl:k=segs.length:=by omega
    have HS:Hid (SSl wr (some ⟨L,0,none⟩) segs.length (segs.map decB)):=hId (by
     have h:=HL.out
     rw [mixL_all]at h
     refine Sl.of_blk h (by simp) (fun i hi j hj=>?_)
     obtain rfl:j=0:=by omega
     unfold strCs
     simp [sEnc]at hi ⊢
     exact⟨_,List.getElem?_eq_getElem hi,rfl⟩)
    go_wp2_with fail
    go_ret2
    exact⟨some ⟨L,0,none⟩,segs.length,segs.length,by rw [HQ1.out];rfl,by rw [HQ1.out];exact HS.out,HM.out,Nat.le_refl _⟩
end Go.Proofs.YtnlloaimplgjnaaGreatDoor
namespace Go.Proofs.YtnlloaimplgjnaaGreatDoor
open Go.RowKit Go.Shelf
set_option linter.unusedVariables false
set_option linter.unusedSimpArgs false
/-- one round: what stands (from the end), and how many are to be passed over -/
def stepB (N:Nat) (st:List ByteArray×Nat) (x:Nat×ByteArray):List ByteArray×Nat:=
 if x.2=dot1∨x.2=dot2 then((if x.1+1=N then st.1++ [emptyB] else st.1),(if x.2=dot2 then st.2+1 else st.2))
 else if 0<st.2 then(st.1,st.2 -1) else(st.1++ [x.2],0)
def foldB (N:Nat) (pre:List (Nat×ByteArray)):List ByteArray×Nat:=pre.foldl (stepB N) ([],0)
theorem foldB_snoc (N:Nat) (pre:List (Nat×ByteArray)) (x:Nat×ByteArray):foldB N (pre++ [x])=stepB N (foldB N pre) x:=by
 unfold foldB;rw [List.foldl_append];rfl
theorem foldB_le (N:Nat) (pre:List (Nat×ByteArray)):(foldB N pre).1.length≤pre.length∧(foldB N pre).2≤pre.length:=by
 induction h:pre.length generalizing pre with
 | zero=>
  have:pre= []:=List.eq_nil_of_length_eq_zero h
  subst this
  simp [foldB]
 | succ n ih=>
  obtain⟨ys,x,rfl⟩:∃ ys x,pre=ys++ [x]:=⟨pre.dropLast,pre.getLast (by intro e;rw [e]at h;cases h),(List.dropLast_concat_getLast _).symm⟩
  have hy:ys.length=n:=by simpa using h
  obtain⟨h1,h2⟩:=ih ys hy
  rw [foldB_snoc]
  unfold stepB
  split
  ·simp only
   constructor
   ·split <;> (try simp only [List.length_append,List.length_singleton]) <;> omega
   ·split <;> omega
  ·split
   ·simp only;omega
   ·simp only [List.length_append,List.length_singleton];omega
theorem dotsB_fold (N:Nat):∀(ps:List (Nat×ByteArray)) (out:List ByteArray) (skip:Nat),(∀ p∈ps,p.1+1≠N)→ps.foldl (stepB N) (out,skip)=dotsB (ps.map (·.2)) false skip out
 | [],out,skip,_=>rfl
 | p::ps,out,skip,h=>by
  have hp:=h p (by simp)
  have ht:=fun q hq=>h q (List.mem_cons_of_mem p hq)
  rw [List.foldl_cons,List.map_cons,dotsB]
  unfold stepB
  by_cases hd:p.2=dot1∨p.2=dot2
  ·rw [if_pos hd,if_pos hd,if_neg hp]
   simp only [Bool.false_eq_true,if_false]
   exact dotsB_fold N ps _ _ ht
  ·rw [if_neg hd,if_neg hd]
   by_cases hs:0<skip
   ·rw [if_pos hs,if_pos hs]
    exact dotsB_fold N ps _ _ ht
   ·rw [if_neg hs,if_neg hs]
    exact dotsB_fold N ps _ _ ht
theorem upto_snd (segs:List ByteArray):(upto (backF segs.length segs) segs.length).map (·.2)=segs.reverse:=by
 apply List.ext_getElem
 ·simp [upto]
 ·intro i h1 h2
  have hi:i<segs.length:=by simpa using h2
  simp [upto,backF,List.getElem_reverse,show segs.length -1 -i<segs.length by omega]
theorem foldB_all {segs:List ByteArray} (h:segs≠[]):foldB segs.length (upto (backF segs.length segs) segs.length)=dotsB segs.reverse true 0 []:=by
 obtain⟨M,hM⟩:∃ M,segs.length=M+1:=⟨segs.length -1,by have:0<segs.length:=List.length_pos_iff.2 h;omega⟩
 have hu:upto (backF segs.length segs) segs.length=backF segs.length segs 0::(List.range M).map (fun j=>backF segs.length segs (j+1)):=by
  unfold upto
  rw [show List.range segs.length=List.range (M+1)by rw [hM],List.range_succ_eq_map,List.map_cons,List.map_map]
  rfl
 have hs:=upto_snd segs
 rw [hu,List.map_cons]at hs
 have hf0:(backF segs.length segs 0).1+1=segs.length:=by unfold backF;simp only;omega
 have ht:∀ p∈(List.range M).map (fun j=>backF segs.length segs (j+1)),p.1+1≠segs.length:=by
  intro p hp
  obtain⟨j,hj,rfl⟩:=List.mem_map.1 hp
  have:=List.mem_range.1 hj
  show segs.length -1 -(j+1)+1≠segs.length
  omega
 unfold foldB
 rw [hu,List.foldl_cons,←hs,dotsB]
 unfold stepB
 by_cases hd:(backF segs.length segs 0).2=dot1∨(backF segs.length segs 0).2=dot2
 ·rw [if_pos hd,if_pos hd,if_pos hf0,if_pos rfl]
  exact dotsB_fold _ _ _ _ ht
 ·rw [if_neg hd,if_neg hd,if_neg (by simp),if_neg (by simp)]
  exact dotsB_fold _ _ _ _ ht
/-- append of one element, in whatever fence -/
theorem wpListIn_push {α:Type} {F:Fence} {m:Nat} {P:Program} {w:World} {B:Nat} {t:TypeId} {sz:Nat} {enc:α→Nat→Value} {A:Option Addr} {n c:Nat} {xs:List α} {ops:Array Oper} {rest:List Oper} {o:Oper} {a:Act} {Q:Exit→Act→World→Prop} (hgd:o.guard=none) (s x:Operand) (ts:TypeId)
  (ho:o.op= .call {callee:=.builtin .append,args:=#[s,x],argTypes:=#[ts,ts]}) (bytes:Nat) (ht:P.underlying ts=some (.slice t)) (hi:EInfo P t sz bytes)
  (hs:a.eval s= .slice A n c) (hown:Own w B t sz enc A n c xs) (y:α) (g0:Nat) (hx:a.eval x= .slice (some ⟨g0,0,none⟩) 1 1) (hb:Blk w g0 t (encL sz enc y).toArray)
  (h1:∀ j,j<sz→(enc y j).oneCell'=true) (hn:n<1000000) (hbytes:bytes≤1000000) (hB:B≤w.heap.size)
  (h:∀ g cap w',Own w' B t sz enc (some ⟨g,0,none⟩) (n+1) cap (xs++ [y])→w.grownBy w' (blkOf A)→
   wpListIn F m P ops Q rest (a.put o.dst (.slice (some ⟨g,0,none⟩) (n+1) cap)) w'):wpListIn F m P ops Q (o::rest) a w:=by
 obtain⟨i,z,hi0,hz,hsz,hby,hzs,h0⟩:=hi
 refine wpListIn_append_own w hgd s x ts ho B t i z sz bytes ht hi0 hz hsz hby hzs h0 _ n _ hs hown.2 ⟨g0,0,none⟩ 1 1 (encL sz enc y) hx (by rw [encL_length];omega) ?_ ?_ (by unfold maxLen;omega) ?_ hB ?_
 ·have:=World.news_of_block hb
  simpa using this
 ·intro u hu
  simp only [encL,List.mem_map,List.mem_range]at hu
  obtain⟨j,hj,rfl⟩:=hu
  exact h1 j hj
 ·have:(n+1) * bytes≤1000000 * 1000000:=Nat.mul_le_mul (by omega) hbytes
  omega
 ·intro v' w' hown' hg _
  rw [ownBlock_eq]at hg
  rcases hown'.2 with⟨_,hz0⟩ |⟨g,cap,cur,rfl,hB,hh,hc1,hc2,hr⟩
  ·omega
  ·exact h g cap w' ⟨by simp [hown.1],by simpa using hown'⟩ hg
/-- between two rounds: the variables' boxes (lb the segments, ob what stands, kb how many are passed over), the row that stands -/
def PInv (w0:World) (L lb ob kb n0 N:Nat) (pre:List (Nat×ByteArray)) (W:World):Prop:=
 ∃ A n c,Blk W lb 26 #[.slice (some ⟨L,0,none⟩) N N]∧Blk W ob 26 #[.slice A n c]∧Blk W kb 3 #[.int .i64 ((foldB N pre).2:Int)]∧Own W n0 9 1 sEnc A n c (foldB N pre).1∧New w0 W∧n0≤W.heap.size
theorem notRow {W:World} {g B:Nat} {t:TypeId} {row:Option Nat} (h:TB W g t) (hr:∀ r,row=some r→B≤r∧∃ o:Obj,W.heap[r]? =some o∧o.isCells=false):¬ row=some g:=by
 intro e
 obtain⟨_,o,ho,hc⟩:=hr g e
 obtain⟨cs,fr,hg⟩:=h
 rw [hg]at ho
 injection ho with ho
 subst ho
 cases hc
theorem PInv.own {w0:World} {L lb ob kb n0 N B:Nat} (hB:w0.heap.size≤B):OwnFrom B (PInv w0 L lb ob kb n0 N):=by
 intro pre W W' row h hg hr
 obtain⟨A,n,c,h1,h2,h3,h4,h5,h6⟩:=h
 have hm:Mod (fun k=>row=some k) W W':=(Mod.refl (fun k=>row=some k) W).grown hg (fun k e=>.inl e)
 refine⟨A,n,c,h1.mod hm (notRow h1.tb hr),h2.mod hm (notRow h2.tb hr),h3.mod hm (notRow h3.tb hr),h4.mod hm (fun g e=>?_),h5.step hm (fun i hi e=>by have:=(hr i e).1;omega),Nat.le_trans h6 hm.size⟩
 rcases h4.blk with⟨rfl,_,_⟩ |⟨g',rfl,_,htb⟩
 ·cases e
 ·injection e with e;subst e;exact notRow htb hr
end Go.Proofs.YtnlloaimplgjnaaGreatDoor
