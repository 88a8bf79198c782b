/- Several texts in one. (1) A region that draws its order: reads that hold in a class of worlds, beside calls or allocations that come one at a time and keep that class; its last operations come in one forced order and may do anything (a store into a cell that was read among them). One walk in the text's order serves every order. No conditions beside the region's own form. (2) A region that draws its order, its head walked in an order that the proof names (XHeld walks in the text's own). No conditions beside the region's own form. (3) What is wrong with a part of a template (package route). Conditions: names of modest size. (4) The text of a template (package route: TemplateText). Conditions: names of at most 1000 bytes. (5) The reference writes a segment (segmentText). Conditions: a name of modest size. (6) The reference's tests on the text of a path (gateref2: in, visible, pathForm), one digit in hexadecimal, a byte with %. Conditions: a text of modest size. (7) A text that is nearly another (Stream.Changed), whatever letters are put in. Conditions: the stream's own. -/
import Derived.Test.YtnlloaimplgjnaaGreatDoorBase
import Derived.StillTail
import Derived.OrdersHeld
import Derived.Deep.RegionHeld
import Derived.Test.YtnlloaimplgjnaaGreatDoorTpl3Grp
import Derived.BigQuiet
import Derived.Test.YtnlloaimplgjnaaGreatDoorSeg3Grp
import Derived.Test.YtnlloaimplgjnaaGreatDoorTpl2Grp
import Derived.Deep.QuietTactic
namespace Go.Proofs.YtnlloaimplgjnaaGreatDoor
open Go Go.RowKit
set_option linter.unusedVariables false
set_option linter.unusedSimpArgs false
section
variable {P:Program} {ops:Array Oper} {md:Region.Mode} {Q:Exit→Act→World→Prop} {S:World→Prop} {n:Nat}
/-- whatever order the head is carried out in, S holds behind each of its operations, and it ends in L -/
def headH (P:Program) (md:Region.Mode) (ops:Array Oper) (Q:Exit→Act→World→Prop) (S:World→Prop) (n:Nat) (L:Array Bool→Act→World→Prop):Nat→Array Bool→Act→World→Prop
 | 0,listed,a,w=>L listed a w
 | f+1,listed,a,w=>Region.ready md ops listed≠[]∧∀ i∈Region.ready md ops listed,i<n∧wpOp P ops Q i (fun a' w'=>S w'∧headH P md ops Q S n L f (listed.setIfInBounds i true) a' w') a w
theorem wpAny_of_headH {g:Nat} {L:Array Bool→Act→World→Prop} (hL:∀ listed a w,L listed a w→wpAny P md ops Q g listed a w):
  ∀(f:Nat) (listed:Array Bool) (a:Act) (w:World),headH P md ops Q S n L f listed a w→wpAny P md ops Q (f+g) listed a w
 | 0,listed,a,w,h=>by rw [Nat.zero_add];exact hL _ _ _ h
 | f+1,listed,a,w,h=>by
  rw [show f+1+g=(f+g)+1 by omega]
  exact⟨fun h0=>absurd h0 h.1,fun i hi=>wpOp_mono (fun a' w' h'=>wpAny_of_headH hL f _ a' w' h'.2) (h.2 i hi).2⟩
theorem headH_first {i:Nat} {oi:Oper} {v:Value} {L:Array Bool→Act→World→Prop} (hi:ops[i]? =some oi) (hsel:∀(j:Nat) (o:Oper) cs b,ops[j]? =some o→o.op≠.select cs b)
  (hQ:∀ c a w,Q (.panic c) (a.put oi.dst v) w→Q (.panic c) a w) (hs:Region.sinkB md ops n=true) (hc:Region.chainB md ops n=true) (hn:n<ops.size) (hin:i<n)
  (hdone:∀ listed a w,L listed a w→∀ j∈Region.ready md ops listed,n≤j):
  ∀(f:Nat) (listed:Array Bool) (a:Act) (w:World),HeadInv md ops n listed→
   (∀ j oj,ops[j]? =some oj→j≠i→listed.getD j true=false→(∀ e∈oj.after,Region.binds md e=true→e.on≠i)→oi.apart ops oj=true)→
   i∈Region.ready md ops listed→YieldsIf P ops S oi v a→S w→
   headH P md ops Q S n L f (listed.setIfInBounds i true) (a.put oi.dst v) w→headH P md ops Q S n L (f+1) listed a w:=by
 intro f
 have before:∀(listed:Array Bool),HeadInv md ops n listed→i∈Region.ready md ops listed→∀ j∈Region.ready md ops listed,j<n:=by
  intro listed inv hr j hj
  rcases Nat.lt_or_ge j n with h | h
  ·exact h
  ·exact absurd hj (tail_waits hs hc hn inv _ i rfl hin (mem_ready.1 hr).1 j h)
 induction f with
 | zero=>
  intro listed a w inv _ hr hy hS H
  refine⟨fun h=>(by rw [h]at hr;cases hr),fun j hj=>?_⟩
  have hjn:=before listed inv hr j hj
  refine⟨hjn,?_⟩
  by_cases hji:j=i
  ·subst hji;exact hy.wpOp hi hS ⟨hS,H⟩
  ·have:=hdone _ _ _ H j (ready_mono hj hji)
   omega
 | succ f ih=>
  intro listed a w inv hfree hr hy hS H
  refine⟨fun h=>(by rw [h]at hr;cases hr),fun j hj=>?_⟩
  have hjn:=before listed inv hr j hj
  refine⟨hjn,?_⟩
  by_cases hji:j=i
  ·subst hji;exact hy.wpOp hi hS ⟨hS,H⟩
  ·have h1:=(H.2 j (ready_mono hj hji)).2
   obtain⟨hjun,oj,hoj,hall⟩:=mem_ready.1 hj
   have hnot:∀ e∈oj.after,Region.binds md e=true→e.on≠i:=fun e he hb heq=>by
    have h1:=hall e he hb
    rw [heq,getD_both (mem_ready.1 hr).1]at h1
    cases h1
   have h2:=wpOp_putIf hoj (hfree j oj hoj hji hjun hnot) (fun cs b=>hsel i oi cs b hi) (fun cs b=>hsel j oj cs b hoj) hQ hy h1
   have hfree':∀ k ok,ops[k]? =some ok→k≠i→(listed.setIfInBounds j true).getD k true=false→
     (∀ e∈ok.after,Region.binds md e=true→e.on≠i)→oi.apart ops ok=true:=fun k ok hk hki hun hno=>by
    refine hfree k ok hk hki ?_ hno
    by_cases hjk:j=k
    ·subst hjk;exact hjun
    ·rw [getD_set_ne true hjk]at hun;exact hun
   refine wpOp_mono (fun a' w' h3=>⟨h3.2.1,ih (listed.setIfInBounds j true) a' w' (inv.set hj hjn) hfree' (ready_mono hr (Ne.symm hji)) h3.1 h3.2.1 ?_⟩) h2
   rw [Array.setIfInBounds_comm _ _ hji]
   exact h3.2.2
end
end Go.Proofs.YtnlloaimplgjnaaGreatDoor
namespace Go.Proofs.YtnlloaimplgjnaaGreatDoor
open Go Go.RowKit
set_option linter.unusedVariables false
set_option linter.unusedSimpArgs false
section
variable {P:Program} {ops:Array Oper} {md:Region.Mode} {Q:Exit→Act→World→Prop} {S:World→Prop} {n:Nat}
/-- the walk in the order that is named -/
def wpHeldO (P:Program) (ops:Array Oper) (Q:Exit→Act→World→Prop) (S:World→Prop) (cs:List Nat) (L:Act→World→Prop):List Nat→Act→World→Prop
 | [],a,w=>L a w
 | k::l,a,w=>if cs.contains k then wpOp P ops Q k (fun a' w'=>S w'∧wpHeldO P ops Q S cs L l a' w') a w
  else ∃ o v,ops[k]? =some o∧YieldsIf P ops S o v a∧wpHeldO P ops Q S cs L l (a.put o.dst v) w
def lexHeldO (md:Region.Mode) (ops:Array Oper) (cs:List Nat) (g n:Nat):List Nat→Array Bool→Bool
 | [],listed=>Region.seqB md ops g n listed
 | k::l,listed=>decide (k<n)&&(if cs.contains k then decide (Region.ready md ops listed= [k]) else(Region.ready md ops listed).contains k&&Region.free md ops listed k)&&lexHeldO md ops cs g n l (listed.setIfInBounds k true)
def heldOrdB (md:Region.Mode) (ops:Array Oper) (cs ord:List Nat):Bool:=
 Region.noSelect ops&&decide (ord.length<ops.size)&&Region.sinkB md ops ord.length&&Region.chainB md ops ord.length&&lexHeldO md ops cs (ops.size -ord.length) ord.length ord (Array.replicate ops.size false)
theorem headH_ord {g:Nat} {cs:List Nat} {Lq:Act→World→Prop} (hQ:∀ c a d v w,Q (.panic c) (Act.put a d v) w→Q (.panic c) a w) (hsel:Region.noSelect ops=true) (hs:Region.sinkB md ops n=true) (hc:Region.chainB md ops n=true) (hn:n<ops.size):
  ∀(l:List Nat) (listed:Array Bool) (a:Act) (w:World),HeadInv md ops n listed→
  lexHeldO md ops cs g n l listed=true→S w→wpHeldO P ops Q S cs Lq l a w→
  headH P md ops Q S n (fun listed' a' w'=>Region.seqB md ops g n listed'=true∧Lq a' w') l.length listed a w
 | [],listed,a,w,_,hB,_,h=>⟨by simpa [lexHeldO]using hB,h⟩
 | k::l,listed,a,w,inv,hB,hS,h=>by
  simp only [lexHeldO,Bool.and_eq_true,decide_eq_true_eq]at hB
  obtain⟨⟨hkn,hr⟩,hB'⟩:=hB
  unfold wpHeldO at h
  by_cases hcs:cs.contains k=true
  ·rw [if_pos hcs]at hr h
   have hr':Region.ready md ops listed= [k]:=by simpa using hr
   have hkr:k∈Region.ready md ops listed:=by rw [hr'];simp
   refine⟨by rw [hr'];simp,fun i hi=>?_⟩
   rw [hr']at hi
   have hik:i=k:=by simpa using hi
   subst hik
   refine⟨hkn,wpOp_mono (fun a' w' h'=>⟨h'.1,headH_ord hQ hsel hs hc hn l _ a' w' (inv.set hkr hkn) hB' h'.1 h'.2⟩) h⟩
  ·rw [if_neg hcs]at hr h
   simp only [Bool.and_eq_true]at hr
   obtain⟨hr,hf⟩:=hr
   have hr':k∈Region.ready md ops listed:=by simpa using hr
   obtain⟨o,v,h0,hy,hK⟩:=h
   exact headH_first h0 (Region.noSelect_spec hsel) (fun c a w=>hQ c a _ v w) hs hc hn hkn (fun listed' a' w' hL=>seqB_ready hL.1) l.length listed a w inv (Region.free_spec h0 hf) hr' hy hS
    (headH_ord hQ hsel hs hc hn l _ _ w (inv.set hr' hkn) hB' hS hK)
/-- the head's operations by 'wpHeldO'; the others come in their order -/
theorem wp_region_held_ord {id:Nat} {a:Act} {w:World} {l:List Oper} (S:World→Prop) (cs ord:List Nat) (hm:P.follows .mixedOrders=true) (hB:heldOrdB .any l.toArray cs ord=true) (hQ:∀ c a d v w,Q (.panic c) (Act.put a d v) w→Q (.panic c) a w) (hS:S w.drew)
  (h:S w.drew→wpHeldO P l.toArray Q S cs (fun a' w'=>wpList P l.toArray Q (l.drop ord.length) a' w') ord a w.drew):(Code.region id l.toArray true).wp P Q a w:=by
 simp only [heldOrdB,Bool.and_eq_true,decide_eq_true_eq]at hB
 obtain⟨⟨⟨⟨hsel,hn⟩,hs⟩,hc⟩,hlex⟩:=hB
 have hdl:(l.drop ord.length).length=l.toArray.size -ord.length:=by simp
 have inv0:HeadInv .any l.toArray ord.length (Array.replicate l.toArray.size false):=
  ⟨by simp,fun j oj _ hl=>(by rw [getD_replicate_false]at hl;cases hl),fun t _ ht=>getD_in (by simpa using ht) (getD_replicate_false _ _)⟩
 have H:=headH_ord (md:=.any) (g:=l.toArray.size -ord.length) hQ hsel hs hc hn ord _ a w.drew inv0 hlex hS (h hS)
 refine wp_region_any hm ?_
 have:=wpAny_of_headH (md:=.any) (Q:=Q) (g:=l.toArray.size -ord.length) (fun listed a' w' hL=>by
  have:=wpAny_of_seq (md:=.any) (Q':=Q) (l.drop ord.length) ord.length listed a' w' (fun j=>by simp [List.getElem?_drop]) (by rw [hdl];exact hL.1) hL.2
  rwa [hdl]at this) _ _ _ _ H
 rw [show ord.length+(l.toArray.size -ord.length)=l.toArray.size by omega]at this
 exact this
theorem heldO_nil {cs:List Nat} {L:Act→World→Prop} {a:Act} {w:World} (h:L a w):wpHeldO P ops Q S cs L [] a w:=h
theorem heldO_take {cs:List Nat} {L:Act→World→Prop} {k:Nat} {o:Oper} {l:List Nat} {a:Act} {w:World} (v:Value) (hk:cs.contains k=false) (ho:ops[k]? =some o) (hg:Region.wanted o (yielded ops a.tmps)=true) (hy:∀ w,S w→(execOp a.eval o).run P w= .ok (.value v) w)
  (h:wpHeldO P ops Q S cs L l (a.put o.dst v) w):wpHeldO P ops Q S cs L (k::l) a w:=by
 unfold wpHeldO
 rw [if_neg (by rw [hk];exact Bool.false_ne_true)]
 exact⟨o,v,ho,.inl ⟨hg,hy⟩,h⟩
theorem heldO_step {cs:List Nat} {L:Act→World→Prop} {k:Nat} {o:Oper} {l:List Nat} {a:Act} {w:World} (hk:cs.contains k=true) (ho:ops[k]? =some o) (hg:o.guard=none)
  (h:∀ K:Act→World→Prop,Shut (∀ a' w',S w'→(S w'→wpHeldO P ops Q S cs L l a' w')→K a' w')→o.wp P a w K Q):wpHeldO P ops Q S cs L (k::l) a w:=by
 unfold wpHeldO
 rw [if_pos hk]
 unfold wpOp
 simp only [ho]
 rw [if_pos (by simp [Region.wanted,hg])]
 exact .inl (h _ (fun a' w' h1 h2=>⟨h1,h2 h1⟩))
end
set_option maxHeartbeats 1000000 in
theorem route_isRest (p:PartD) (w:World):
  Calls Tryz.prog 87 #[p.val] w fun e w'=>e= .returned (.bool (decide (p.kind=3)))∧New w w':=by
 obtain⟨pk,pn⟩:=p
 have hb:=Blk.new w 78 #[.int .i64 pk,.string pn]
 have HM:Hid (New w (w.alloc (.cells #[.int .i64 pk,.string pn] 78))):=hId ((Mod.refl _ _).alloc _)
 have hd:((pk:Int) == 3)=decide (pk=3):=by rw [Bool.eq_iff_iff];simp
 unfold PartD.val
 simp only
 clear hb
 go_enter Tryz.func87,Tryz.ntmps87
 go_wp2_with fail
 go_ret
 exact⟨ret_bool hd,HM.out⟩
theorem PSl.take {w:World} {A:Option Addr} {n:Nat} {ps:List PartD} (h:PSl w A n ps) {k:Nat} (hk:k≤n):PSl w A k (ps.take k):=by
 have hl:=h.1
 refine⟨by simp;omega,fun h0=>?_⟩
 obtain⟨g,o,hA,htb,hc⟩:=h.2 (by omega)
 exact⟨g,o,hA,htb,fun i hi j hj=>by
  have hi2:i<ps.length:=by simp at hi;omega
  rw [hc i hi2 j hj]
  simp⟩
/-- parts whose names are of modest size -/
def PShort (ps:List PartD):Prop:=∀ p∈ps,p.name.size≤100000
def PMild (ps:List PartD):Prop:=∀ p∈ps,p.name.size≤1000
theorem PMild.short {ps:List PartD} (h:PMild ps):PShort ps:=fun p hp=>by have:=h p hp;omega
def RTxt (q:Int×List UInt8) (w:World) (e:Ending) (w':World):Prop:=e= .returned (.tuple #[.string ⟨q.2.toArray⟩,.int .i64 q.1])∧New w w'
theorem RTxt.fault {q:Int×List UInt8} {w w':World} {x:Int} (h:q=(x,[])) (hm:New w w'):RTxt q w (.returned (.tuple #[.string ⟨#[]⟩,.int .i64 x])) w':=⟨by rw [h],hm⟩
theorem cat_list (a b:ByteArray):(a++b).data.toList=a.data.toList++b.data.toList:=by simp [ByteArray.data_append]
abbrev openL:List UInt8:=[97,98,99,100,101,102,103,104,105,106,107,108,109,110,111,112,113,114,115,116,117,118,119,120,121,122,65,66,67,68,69,70,71,72,73,74,75,76,77,78,79,80,81,82,83,84,85,86,87,88,89,90,95,48,49,50,51,52,53,54,55,56,57,45,46,126,33,36,38,39,40,41,42,43,44,59,61,58,64]
theorem open_at (c:UInt8):decide (0≤Lib.indexByte openL c)=openC c:=by
 revert c
 apply byteOf
 decide +kernel
theorem open_ascii {c:UInt8} (h:openC c=true):Utf8.encode (c.toNat:Int)=⟨#[c]⟩:=by
 revert h
 revert c
 apply byteOf
 decide +kernel
theorem up_ascii (m:Nat) (h:m<16):Utf8.encode ((upB[m]'h).toNat:Int)=⟨#[upHex m]⟩:=by
 rw [← upB_at m h]
 revert m
 decide +kernel
theorem up_div (x:UInt8) (z:Int) (hz:z=(x.toNat:Int)) (h:(z / 16).toNat<16):Utf8.encode ((upB[(z / 16).toNat]'h).toNat:Int)=⟨#[upHex (x.toNat / 16)]⟩:=by
 have e:(z / 16).toNat=x.toNat / 16:=by omega
 rw [up_ascii _ h,e]
theorem up_mod (x:UInt8) (z:Int) (hz:z=(x.toNat:Int)) (h:(z % 16).toNat<16):Utf8.encode ((upB[(z % 16).toNat]'h).toNat:Int)=⟨#[upHex (x.toNat % 16)]⟩:=by
 have e:(z % 16).toNat=x.toNat % 16:=by omega
 rw [up_ascii _ h,e]
theorem wrap32 (c:UInt8):IntKind.i32.wrap (c.toNat:Int)=c.toNat:=by
 have:=c.toNat_lt
 simp [IntKind.wrap,IntKind.signed,IntKind.bits]
 omega
set_option maxRecDepth 100000 in
set_option maxHeartbeats 1500000 in
theorem ref_segmentText (s:ByteArray) (w:World) (hs:s.size≤100000):
  Calls Tryz.prog 237 #[.string s] w fun e w'=>e= .returned (.string ⟨(segL s.data.toList).toArray⟩)∧New w w':=by
 have hcv:=Lib.run_convert_string_bytes (P:=Tryz.prog) w 9 107 5 s (u:=.string) Tryz.underlying9 Tryz.underlying107 Tryz.underlying5
 have hB:∀ j,j<s.size→(Lib.bytesWorld w 5 s).cell? ⟨w.heap.size,j,none⟩=some (.int .u8 (s.data.toList.getD j 0).toNat):=fun j hj=>Lib.bytesWorld_cell w 5 s j hj
 have hNW:=bytes_newH w 5 s
 go_enter Tryz.func237,Tryz.ntmps237
 go_wp2_with fail
 generalize Lib.bytesWorld w 5 s=w2 at *
 generalize w.heap.size=cb at *
 have HB:=hId hB
 have HM:=hId hNW
 clear hB hNW hcv
 go_loopw [3,9] (fun o i wr=>∃(k:Nat) (U:ByteArray),k≤s.size∧i= .int .i64 k∧o= .string U∧Hid (U.data.toList=segL (s.data.toList.take k))∧Hid (New w2 wr)) (fun _ i _=>s.size -(intOf i).toNat)
 case atStart=>exact⟨0,⟨#[]⟩,Nat.zero_le _,rfl,rfl,hId rfl,hId (Mod.refl _ _)⟩
 case round=>
  rename World=>wr
  obtain⟨k,U,hk,rfl,rfl,HU,HW⟩:=hrel
  by_cases hlt:k<s.size
  ·have hkl:k<s.data.toList.length:=hlt
   have hUz:U.size≤300000:=by
    have h1:U.data.toList.length=U.size:=rfl
    have h2:=segL_length (s.data.toList.take k)
    rw [HU.out]at h1
    have h3:(s.data.toList.take k).length=k:=by rw [List.length_take];omega
    omega
   have hst:=segL_take hkl
   have hc:=(HW.out.cell (p:=⟨cb,k,none⟩) (by
    have:=HB.out k hlt
    rcases Nat.lt_or_ge cb w2.heap.size with h | h
    ·exact h
    ·simp [World.cell?,Array.getElem?_eq_none h]at this) (fun e=>e)).trans (HB.out k hlt)
   have hget:s.data.toList.getD k 0=s.data.toList[k]:=by simp [List.getD,List.getElem?_eq_getElem hkl]
   rw [hget]at hc
   have hix:=fun W=>Tryz.strings_IndexByte ⟨#[97,98,99,100,101,102,103,104,105,106,107,108,109,110,111,112,113,114,115,116,117,118,119,120,121,122,65,66,67,68,69,70,71,72,73,74,75,76,77,78,79,80,81,82,83,84,85,86,87,88,89,90,95,48,49,50,51,52,53,54,55,56,57,45,46,126,33,36,38,39,40,41,42,43,44,59,61,58,64]⟩ (s.data.toList[k].toNat:Int) W
   rw [byteBack,show(⟨#[97,98,99,100,101,102,103,104,105,106,107,108,109,110,111,112,113,114,115,116,117,118,119,120,121,122,65,66,67,68,69,70,71,72,73,74,75,76,77,78,79,80,81,82,83,84,85,86,87,88,89,90,95,48,49,50,51,52,53,54,55,56,57,45,46,126,33,36,38,39,40,41,42,43,44,59,61,58,64]⟩:ByteArray).data.toList=openL from rfl]at hix
   have hop:=open_at s.data.toList[k]
   generalize s.data.toList[k]=x at *
   have hsx:segC x=if openC x then [x] else [37,upHex (x.toNat / 16),upHex (x.toNat % 16)]:=rfl
   have hwr:=wrap32 x
   have hx256:=x.toNat_lt
   have hb1:(0:Int)≤k:=by omega
   have hb2:(k:Int)<s.size:=by omega
   have hix:=hix wr
   generalize Lib.indexByte openL x=r at *
   cases hox:openC x <;> rw [hox]at hop hsx
   ·have hr:¬ (0:Int)≤r:=by simpa using hop
    obtain⟨z,hz⟩:∃ z:Int,z=(x.toNat:Int):=⟨_,rfl⟩
    have z0:0≤z:=by omega
    have z1:z<256:=by omega
    have q16:(z / 16).toNat<16:=by omega
    have r16:(z % 16).toNat<16:=by omega
    have d0:0≤z / 16:=by omega
    have d1:z / 16<16:=by omega
    have m0:0≤z % 16:=by omega
    have m1:z % 16<16:=by omega
    have td:z.tdiv 16=z / 16:=Int.tdiv_eq_ediv_of_nonneg z0
    have tm:z.tmod 16=z % 16:=Int.tmod_eq_emod_of_nonneg z0
    have en1:=up_div x z hz q16
    have en2:=up_mod x z hz r16
    have HS1:Hid ((U++(⟨#[37]⟩++⟨#[upHex (x.toNat / 16)]⟩++⟨#[upHex (x.toNat % 16)]⟩)).data.toList=segL (s.data.toList.take (k+1))):=hId (by rw [cat_list,HU.out,hst,hsx];rfl)
    generalize upHex (x.toNat / 16)=u1 at *
    generalize upHex (x.toNat % 16)=u2 at *
    have e1:∀ u:UInt8,(⟨#[u]⟩:ByteArray).size=1:=fun u=>rfl
    have hadd1:¬ 9223372036854775807<(⟨#[37]⟩:ByteArray).size+(⟨#[u1]⟩:ByteArray).size:=by rw [e1,e1];omega
    have hadd2:¬ 9223372036854775807<((⟨#[37]⟩:ByteArray)++⟨#[u1]⟩).size+(⟨#[u2]⟩:ByteArray).size:=by rw [ByteArray.size_append,e1,e1,e1];omega
    have hadd3:¬ 9223372036854775807<U.size+((⟨#[37]⟩:ByteArray)++⟨#[u1]⟩++⟨#[u2]⟩).size:=by rw [ByteArray.size_append,ByteArray.size_append,e1,e1,e1];omega
    rw [← hz]at hc hix
    have HALL:=hId (And.intro td (And.intro tm (And.intro en1 en2)))
    clear hst hsx hop hget hox hz hwr e1 hx256 td tm en1 en2
    go_upto_region 7 with(first |(refine hix.mono ?_;clear hix;rintro e w' ⟨rfl,hw⟩;rw [hw];clear hw))
    obtain⟨td,tm,en1,en2⟩:=HALL.out
    clear HALL
    go_quiet (fail)
    go_wp2_with fail
    go_roundw
    case rel=>exact⟨k+1,_,by omega,by go_num,rfl,HS1,hId (HW.out.drewN _)⟩
    case measure=>simp [intOf];omega
   ·have hr:(0:Int)≤r:=by simpa using hop
    have hen:=open_ascii hox
    have HS1:Hid ((U++⟨#[x]⟩).data.toList=segL (s.data.toList.take (k+1))):=hId (by rw [cat_list,HU.out,hst,hsx];rfl)
    have hadd:¬ 9223372036854775807<U.size+(⟨#[x]⟩:ByteArray).size:=by have e:(⟨#[x]⟩:ByteArray).size=1:=rfl;omega
    clear hst hsx hop hget hox
    go_wp2_with (first |(refine hix.mono ?_;clear hix;rintro e w' ⟨rfl,hw⟩;rw [hw];clear hw))
    go_roundw
    case rel=>exact⟨k+1,_,by omega,by go_num,rfl,HS1,HW⟩
    case measure=>simp [intOf];omega
  ·obtain rfl:k=s.size:=by omega
   have HN:Hid (U=⟨(segL s.data.toList).toArray⟩):=hId (by
    have h:=HU.out
    rw [show s.data.toList.take s.size=s.data.toList from List.take_length]at h
    rw [← h,mkList])
   go_wp2_with fail
   go_ret
   exact⟨by rw [← HN.out];rfl,HM.out.trans HW.out⟩
set_option maxHeartbeats 1000000 in
theorem ref2_visible (s:ByteArray) (lo:Nat) (w:World) (hs:s.size≤maxLen):
  Calls Tryz.prog 102 #[.string s,.int .u8 (lo:Int)] w fun e w'=>e= .returned (.bool (inR lo 126 s.data.toList))∧w=w':=by
 unfold maxLen at hs
 go_enter Tryz.func102,Tryz.ntmps102
 go_wp2_with fail
 go_loop [8] (fun v=>∃ k:Nat,k≤s.size∧v= .int .i64 k∧Hid (inR lo 126 (s.data.toList.take k)=true)) (fun v=>s.size -(intOf v).toNat)
 case atStart=>exact⟨0,Nat.zero_le _,rfl,hId rfl⟩
 case round=>
  obtain⟨k,hk,rfl,HR⟩:=hrel
  by_cases hlt:k<s.size
  ·have hkl:k<s.data.toList.length:=hlt
   have hg:s.data.toList[k]=s[k]:=rfl
   have HT:Hid (inR lo 126 (s.data.toList.take (k+1))=(decide (lo≤s[k].toNat)&&decide (s[k].toNat≤126))):=hId (by have:=HR.out;unfold inR at *;rw [all_take hkl,this,hg];rfl)
   have HF:Hid ((decide (lo≤s[k].toNat)&&decide (s[k].toNat≤126))=false→inR lo 126 s.data.toList=false):=hId (fun h=>all_stop hkl (by rw [hg];exact h))
   clear hg
   by_cases hb:lo≤s[k].toNat∧s[k].toNat≤126
   ·obtain⟨b1,b2⟩:=hb
    have HB:Hid ((decide (lo≤s[k].toNat)&&decide (s[k].toNat≤126))=true):=hId (by simp [b1,b2])
    have c1:¬ ((s[k].toNat:Int)<(lo:Int)):=by omega
    have c2:¬ ((126:Int)<(s[k].toNat:Int)):=by omega
    go_wp2_with fail
    exact⟨⟨k+1,by omega,by go_num,hId (HT.out.trans HB.out)⟩,by simp [intOf];omega⟩
   ·have HB:Hid ((decide (lo≤s[k].toNat)&&decide (s[k].toNat≤126))=false):=hId (by simp;omega)
    have hb':((s[k].toNat:Int)<(lo:Int))∨¬ ((s[k].toNat:Int)<(lo:Int))∧((126:Int)<(s[k].toNat:Int)):=by omega
    clear hb
    rcases hb' with b1 |⟨b1,b2⟩
    all_goals go_wp2_with fail
    all_goals go_ret
    all_goals exact⟨ret_bool (HF.out HB.out).symm,rfl⟩
  ·obtain rfl:k=s.size:=by omega
   have hfull:s.data.toList.take s.size=s.data.toList:=List.take_length
   rw [hfull]at HR
   clear hfull
   go_wp2_with fail
   go_ret
   exact⟨ret_bool HR.out.symm,rfl⟩
theorem prefix_headN {l:List UInt8} {c:UInt8} (h:0<l.length):Lib.hasPrefix l [c]=decide (l[0]=c):=by
 cases l with
 | nil=>simp at h
 | cons a r=>
  simp only [Lib.hasPrefix,List.isPrefixOf,Bool.and_true,lgz]
  rw [Bool.eq_iff_iff]
  simp only [beq_iff_eq,decide_eq_true_eq]
  exact eq_comm
set_option maxHeartbeats 2000000 in
theorem ref2_pathForm (s:ByteArray) (w:World) (hs:s.size≤900000):
  Calls Tryz.prog 107 #[.string s] w fun e w'=>e= .returned (.bool (decide (pathBad s.data.toList=0)))∧New w w':=by
 have hin:=ref2_in s.size 1 1000 w
 have hr:=ref2_visible s 33 w (by unfold maxLen;omega)
 have hlen:s.data.toList.length=s.size:=rfl
 by_cases h1:1≤s.size∧s.size≤1000
 rotate_left
 ·have hb:(decide ((1:Int)≤(s.size:Int))&&decide ((s.size:Int)≤1000))=false:=by simp;omega
  rw [hb]at hin
  have HP:Hid (decide (pathBad s.data.toList=0)=false):=hId (by
   rw [decide_eq_false_iff_not]
   unfold pathBad
   by_cases h2:1000<s.data.toList.length
   ·rw [if_pos h2];decide
   ·rw [if_neg h2]
    have h0:s.data.toList= []:=List.eq_nil_of_length_eq_zero (by omega)
    rw [h0]
    decide)
  clear hlen hr hb h1
  go_enter Tryz.func107,Tryz.ntmps107
  go_wp2_with (first |(refine hin.mono ?_;clear hin;rintro e w' ⟨rfl,rfl⟩))
  go_ret
  exact⟨ret_bool HP.out.symm,Mod.refl _ _⟩
 have hb:(decide ((1:Int)≤(s.size:Int))&&decide ((s.size:Int)≤1000))=true:=by simp;omega
 rw [hb]at hin
 have h0:0<s.size:=by omega
 have hpx:=prefix_headN (l:=s.data.toList) (c:=47) (by omega)
 have hg:s.data.toList[0]'(by omega)=s[0]'h0:=rfl
 rw [hg]at hpx
 have hP1:pathBad s.data.toList=if Lib.hasPrefix s.data.toList [47]=false then 3 else if inR 33 126 s.data.toList=false then 3 else if Lib.containsAny s.data.toList [63,35]=true then 3 else 0:=by unfold pathBad;rw [if_neg (by omega)]
 rw [hpx]at hP1
 have hsz:s.size≤1000:=h1.2
 clear hb h1 hpx hg
 by_cases h2:s[0]=47
 rotate_left
 ·have HP:Hid (decide (pathBad s.data.toList=0)=false):=hId (by rw [decide_eq_false h2,if_pos rfl]at hP1;rw [hP1];rfl)
  have hc:((s[0].toNat:Int) == 47)=false:=by
   simp only [beq_eq_false_iff_ne,ne_eq]
   intro h
   exact h2 (UInt8.toNat_inj.1 (by have:(47:UInt8).toNat=47:=rfl;omega))
  clear hlen hr hP1 h2
  go_enter Tryz.func107,Tryz.ntmps107
  go_wp2_with (first |(refine hin.mono ?_;clear hin;rintro e w' ⟨rfl,rfl⟩))
  go_ret
  exact⟨ret_bool HP.out.symm,Mod.refl _ _⟩
 rw [decide_eq_true h2,if_neg (by decide)]at hP1
 have hc:((s[0].toNat:Int) == 47)=true:=by rw [h2];rfl
 clear h2
 cases h3:inR 33 126 s.data.toList <;> rw [h3]at hr hP1
 ·have HP:Hid (decide (pathBad s.data.toList=0)=false):=hId (by rw [hP1];rfl)
  clear hlen hP1 h3
  go_enter Tryz.func107,Tryz.ntmps107
  go_wp2_with (first |(refine hin.mono ?_;clear hin;rintro e w' ⟨rfl,rfl⟩) |(refine hr.mono ?_;clear hr;rintro e w' ⟨rfl,rfl⟩))
  go_ret
  exact⟨ret_bool HP.out.symm,Mod.refl _ _⟩
 rw [if_neg (by decide)]at hP1
 have hca:=Tryz.strings_ContainsAny_laid s ⟨#[63,35]⟩ w (by omega) (by decide) (inR_ascii h3) (asciiAll (by decide))
 rw [show (⟨#[63,35]⟩:ByteArray).data.toList= [63,35] from rfl]at hca
 generalize Lib.containsAny s.data.toList [63,35]=q at *
 have HP:Hid (decide (pathBad s.data.toList=0)= !q):=hId (by rw [hP1];cases q <;> rfl)
 clear hlen hP1 h3
 cases q
 all_goals
  go_enter Tryz.func107,Tryz.ntmps107
  go_wp2_with (first |(refine hin.mono ?_;clear hin;rintro e w' ⟨rfl,rfl⟩) |(refine hr.mono ?_;clear hr;rintro e w' ⟨rfl,rfl⟩) |(refine hca.mono ?_;clear hca;rintro e w2 ⟨rfl,hm2⟩;have hm2:=hId hm2))
  go_ret
  exact⟨ret_bool (by rw [HP.out];rfl),Mod.of_below hm2.out⟩
theorem digit_cut (m:Nat) (h:m<16):upB.extract m (m+1)=⟨#[upHex m]⟩:=by
 match m,h with
 | 0,_=>rfl
 | 1,_=>rfl
 | 2,_=>rfl
 | 3,_=>rfl
 | 4,_=>rfl
 | 5,_=>rfl
 | 6,_=>rfl
 | 7,_=>rfl
 | 8,_=>rfl
 | 9,_=>rfl
 | 10,_=>rfl
 | 11,_=>rfl
 | 12,_=>rfl
 | 13,_=>rfl
 | 14,_=>rfl
 | 15,_=>rfl
 | n+16,h=>exact absurd h (by omega)
set_option maxHeartbeats 1000000 in
theorem ref2_digits0 (m:Nat) (h:m<16) (n:Int) (hn:n=m) (w:World):
  Calls Tryz.prog 190 #[.int .u8 n] w fun e w'=>e= .returned (.string ⟨#[upHex m]⟩)∧w=w':=by
 have h0:0≤n:=by omega
 have h1:n<16:=by omega
 have h2:n+1≤16:=by omega
 have hz:(⟨#[48,49,50,51,52,53,54,55,56,57,65,66,67,68,69,70]⟩:ByteArray).size=16:=rfl
 have HD:Hid (upB.extract n.toNat (n+1).toNat=⟨#[upHex m]⟩):=hId (by
  have e1:n.toNat=m:=by omega
  have e2:(n+1).toNat=m+1:=by omega
  rw [e1,e2]
  exact digit_cut m h)
 clear hn h
 go_enter Tryz.func190,Tryz.ntmps190
 go_wp2_with fail
 go_ret
 exact⟨by rw [← HD.out];rfl,rfl⟩
set_option maxHeartbeats 1000000 in
theorem ref2_coded (c:UInt8) (w:World):
  Calls Tryz.prog 124 #[.int .u8 (c.toNat:Int)] w fun e w'=>e= .returned (.string ⟨#[37,upHex (c.toNat / 16),upHex (c.toNat % 16)]⟩)∧w=w':=by
 have hc:=c.toNat_lt
 have d1:=ref2_digits0 (c.toNat / 16) (by omega) ((c.toNat:Int) / 16) (by omega) w
 have d2:=ref2_digits0 (c.toNat % 16) (by omega) ((c.toNat:Int) % 16) (by omega) w
 obtain⟨n,hn⟩:∃ n:Int,n=(c.toNat:Int):=⟨_,rfl⟩
 have h0:0≤n:=by omega
 have h1:n<256:=by omega
 generalize upHex (c.toNat / 16)=u at *
 generalize upHex (c.toNat % 16)=v at *
 rw [← hn]at d1 d2 ⊢
 have q0:0≤n / 16:=by omega
 have q1:n / 16<16:=by omega
 have r0:0≤n % 16:=by omega
 have r1:n % 16<16:=by omega
 have s1:∀ x:UInt8,(⟨#[x]⟩:ByteArray).size=1:=fun x=>rfl
 have ha1:¬ 9223372036854775807<(⟨#[37]⟩:ByteArray).size+(⟨#[u]⟩:ByteArray).size:=by rw [s1,s1];omega
 have ha2:¬ 9223372036854775807<((⟨#[37]⟩:ByteArray)++⟨#[u]⟩).size+(⟨#[v]⟩:ByteArray).size:=by rw [ByteArray.size_append,s1,s1,s1];omega
 clear hn hc s1
 go_enter Tryz.func124,Tryz.ntmps124
 go_wp2_with (first |(refine d1.mono ?_;clear d1;rintro e w' ⟨rfl,rfl⟩) |(refine d2.mono ?_;clear d2;rintro e w' ⟨rfl,rfl⟩))
 go_ret
 exact⟨rfl,rfl⟩
theorem encode_size (n:Int):(Utf8.encode n).size≤4:=by
 unfold Utf8.encode
 simp only
 repeat' split
 all_goals (first | decide |(show _≤4;simp [ByteArray.size]))
theorem encode_wrap (c:UInt8):IntKind.i32.wrap (c.toNat:Int)=c.toNat:=by
 have:=c.toNat_lt
 simp [IntKind.wrap,IntKind.signed,IntKind.bits]
 omega
set_option maxRecDepth 100000 in
set_option maxHeartbeats 2000000 in
theorem changed_with (b k:Nat) (t:ByteArray) (w:World) (hs:SInv b w k) (hk:k<4611686018427000000) (ht:t.size≤1000000) (wt:ByteArray) (hw0:0<wt.size) (hw:wt.size≤100):
  Calls Tryz.prog 25 #[.pointer (some ⟨b,0,none⟩),.string t,.string wt] w (RStr fun m w'=>m.size≤t.size+wt.size+8∧SStep b w w' (k+3)):=by
 have hb:=hs.lt
 have hwe:(wt.toList == [])=false:=by
  rw [ByteArray.toList_eq]
  simp only [beq_eq_false_iff_ne,ne_eq]
  intro h
  have:wt.data.toList.length=0:=by rw [h];rfl
  have e:wt.data.toList.length=wt.size:=rfl
  omega
 by_cases he:t=⟨#[]⟩
 ·have he':(t.toList == [])=true:=by rw [he,ByteArray.toList_eq];rfl
  clear he
  go_enter Tryz.func25,Tryz.ntmps25
  go_wp2_with fail
  go_ret
  exact⟨wt,rfl,by omega,(SStep.refl hs).more (by omega)⟩
 ·have he':(t.toList == [])=false:=by
   rw [ByteArray.toList_eq]
   simp only [beq_eq_false_iff_ne,ne_eq]
   intro h
   exact he (ByteArray.ext (Array.toList_inj.mp h))
  have hpos:1≤t.size:=by
   rcases Nat.eq_zero_or_pos t.size with h | h
   ·exact absurd (ByteArray.ext (Array.eq_empty_of_size_eq_zero h)) he
   ·exact h
  clear he
  go_enter Tryz.func25,Tryz.ntmps25
  go_wp2_with fail
  refine(next_any b k t.size w hs (by omega) (by omega) (by omega)).mono ?_
  rintro e w1 ⟨i,rfl,hi0,hi1,h1⟩
  go_wp2_with fail
  refine(next_any b _ wt.size w1 h1.inv (by omega) (by omega) (by omega)).mono ?_
  rintro e w2 ⟨j,rfl,hj0,hj1,h2⟩
  obtain⟨i,rfl⟩:=Int.eq_ofNat_of_zero_le hi0
  obtain⟨j,rfl⟩:=Int.eq_ofNat_of_zero_le hj0
  have hj2:j<wt.size:=by omega
  go_wp2_with fail
  refine(next_any b _ 3 w2 h2.inv (by omega) (by omega) (by omega)).mono ?_
  rintro e w3 ⟨m,rfl,hm0,hm1,h3⟩
  have h13:=(h1.trans h2).trans h3
  have hew:=encode_wrap wt[j]
  have hes:=encode_size (wt[j].toNat:Int)
  generalize wt[j]'hj2=c at hew hes ⊢
  have hi2:i<t.size:=by omega
  have e1:(t.extract 0 i).size=i:=by simp only [ByteArray.size_extract];omega
  have e2:(t.extract (i+1) t.size).size=t.size -(i+1):=by simp only [ByteArray.size_extract];omega
  have e3:(t.extract i t.size).size=t.size -i:=by simp only [ByteArray.size_extract];omega
  have E1:=hId e1
  have E2:=hId e2
  have E3:=hId e3
  clear e1 e2 e3 h1 h2 h3
  obtain rfl | rfl | rfl:m=0∨m=1∨m=2:=by omega
  ·go_wp2_with fail
   go_quiet (fail)
   go_wp2_with fail
   go_ret
   refine⟨_,rfl,?_,(h13.drewN _).more (by omega)⟩
   simp only [ByteArray.size_append,E1.out,E2.out]
   omega
  ·go_wp2_with fail
   go_quiet (fail)
   go_wp2_with fail
   go_ret
   refine⟨_,rfl,?_,(h13.drewN _).more (by omega)⟩
   simp only [ByteArray.size_append,E1.out,E3.out]
   omega
  ·go_wp2_with fail
   go_quiet (fail)
   go_wp2_with fail
   go_ret
   refine⟨_,rfl,?_,(h13.drewN _).more (by omega)⟩
   simp only [ByteArray.size_append,E1.out,E2.out]
   omega
end Go.Proofs.YtnlloaimplgjnaaGreatDoor
