/- Several texts in one. (1) A query read by the program (package message: ParseQuery). Conditions: texts of modest size; the library's variable on searching is an int. (2) slices.Clone of headers. Printed by mkhdr.py. Conditions: at most 200000 headers. (3) slices.DeleteFunc of pairs, over a function value that asks about a pair. Printed by mkdelq.py out of XDelF. Conditions: at most 100000 pairs. -/
import Derived.Test.YtnlloaimplgjnaaGreatDoorHdrFGrp
import Derived.Test.YtnlloaimplgjnaaGreatDoorDecPGrp
import Derived.Test.YtnlloaimplgjnaaGreatDoorPairGrp
import Derived.Test.YtnlloaimplgjnaaGreatDoorNormGrp
import Derived.Test.YtnlloaimplgjnaaGreatDoorHeldGrp
namespace Go.Proofs.YtnlloaimplgjnaaGreatDoor
open Go.RowKit
set_option linter.unusedVariables false
set_option linter.unusedSimpArgs false
/-- an error and pairs handed back, the pairs in a row of the call's own -/
def RQry (q:Int×List PairD) (w:World) (e:Ending) (w':World):Prop:=∃ A n c,e= .returned (.tuple #[.slice A n c,.int .i64 q.1])∧Own w' w.heap.size 52 2 pairEnc A n c q.2∧New w w'
theorem RQry.fault {q:Int×List PairD} {w w':World} {x:Int} (h:q=(x,[])) (hm:New w w'):RQry q w (.returned (.tuple #[.slice none 0 0,.int .i64 x])) w':=
 ⟨none,0,0,by rw [h],by rw [h];exact Own.nil,hm⟩
theorem pairsQ_skip {segs:List ByteArray} {k:Nat} (h:k<segs.length) (e:segs[k]=⟨#[]⟩):pairsQ (segs.drop k)=pairsQ (segs.drop (k+1)):=by
 rw [List.drop_eq_getElem_cons h,pairsQ,if_pos e]
theorem pairsQ_next {segs:List ByteArray} {k:Nat} (h:k<segs.length) (e:segs[k]≠⟨#[]⟩):pairsQ (segs.drop k)=match pairQ segs[k]with
  | none=>none
  | some p=>(pairsQ (segs.drop (k+1))).map (p:: ·):=by
 rw [List.drop_eq_getElem_cons h,pairsQ,if_neg e]
 cases pairQ segs[k] <;> rfl
/-- the pairs of the first k pieces have been read -/
def QryTo (segs:List ByteArray) (k:Nat) (qs:List PairD):Prop:=pairsQ segs=(pairsQ (segs.drop k)).map (qs++ ·)
theorem QryTo.start (segs:List ByteArray):QryTo segs 0 []:=by unfold QryTo;rw [List.drop_zero];cases pairsQ segs <;> simp
theorem QryTo.skip {segs:List ByteArray} {k:Nat} {qs:List PairD} (h:QryTo segs k qs) (hk:k<segs.length) (e:segs[k]=⟨#[]⟩):QryTo segs (k+1) qs:=by
 unfold QryTo at *
 rw [h,pairsQ_skip hk e]
theorem QryTo.more {segs:List ByteArray} {k:Nat} {qs:List PairD} {p:PairD} (h:QryTo segs k qs) (hk:k<segs.length) (e:segs[k]≠⟨#[]⟩) (hp:pairQ segs[k]=some p):QryTo segs (k+1) (qs++ [p]):=by
 unfold QryTo at *
 rw [h,pairsQ_next hk e,hp]
 simp only
 cases pairsQ (segs.drop (k+1)) <;> simp
theorem QryTo.bad {segs:List ByteArray} {k:Nat} {qs:List PairD} (h:QryTo segs k qs) (hk:k<segs.length) (e:segs[k]≠⟨#[]⟩) (hp:pairQ segs[k]=none):pairsQ segs=none:=by
 unfold QryTo at h
 rw [h,pairsQ_next hk e,hp]
 rfl
theorem QryTo.done {segs:List ByteArray} {qs:List PairD} (h:QryTo segs segs.length qs):pairsQ segs=some qs:=by
 unfold QryTo at h
 rw [h,List.drop_length,pairsQ]
 simp
theorem queryBad_small {s:ByteArray} (h:queryBad s.data.toList=0):s.size≤1000:=by
 unfold queryBad at h
 by_cases h1:1000<s.data.toList.length
 ·rw [if_pos h1]at h;cases h
 ·have:s.data.toList.length=s.size:=rfl
  omega
theorem amp_count {s:ByteArray} (h:s.size≤1000):(pieces s ampB).length≤1001:=by
 rw [pieces_length (show 1≤(ampB:ByteArray).size from Nat.le_refl _)]
 have:=Lib.countB_le ampB (Nat.le_refl _) s.size s (Nat.le_refl _)
 omega
set_option maxRecDepth 100000 in
set_option maxHeartbeats 1500000 in
theorem msg_parseQuery (s:ByteArray) (w:World) (hs:s.size≤100000) (hx:MaxLn w):
  Calls Tryz.prog 146 #[.string s] w (RQry (queryOf s) w):=by
 have hpf:=msg_queryFault s w (by omega)
 by_cases hp:queryBad s.data.toList≠0
 ·have HQ:Hid (queryOf s=(queryBad s.data.toList,[])):=hId (by unfold queryOf;rw [if_pos hp])
  generalize queryBad s.data.toList=pb at *
  have hp':((pb:Int) != 0)=true:=by simpa using hp
  clear hp
  go_enter Tryz.func146,Tryz.ntmps146
  go_wp2_with fail
  refine hpf.mono ?_
  clear hpf
  rintro e w1 ⟨rfl,hm⟩
  have HM:=hId hm
  clear hm
  go_wp2_with fail
  go_ret2
  exact RQry.fault HQ.out HM.out
 have hp0:queryBad s.data.toList=0:=by simpa using hp
 have HQ:Hid (queryOf s=match pairsQ (pieces s ampB)with
   | none=>(9,[])
   | some l=>if 100<l.length then(2,[]) else(0,l)):=hId (by
  unfold queryOf
  rw [if_neg hp]
  cases pairsQ (pieces s ampB) <;> rfl)
 have hz:=queryBad_small hp0
 rw [hp0]at hpf
 clear hp hp0
 have hpc:=amp_count hz
 have HPL:=hId (fun x (hx:x∈pieces s ampB)=>Nat.le_trans (pieces_le hx) hz)
 have HX:=hId hx
 have HSP:=hId (fun W (h:New w W)=>split_any s 38 W (by omega) (HX.out.new h))
 clear hx
 go_enter Tryz.func146,Tryz.ntmps146
 go_wp2_with fail
 refine hpf.mono ?_
 clear hpf
 rintro e w2 ⟨rfl,hm2⟩
 have hsp:=HSP.out w2 hm2
 clear HSP
 go_wp2_with fail
 refine hsp.mono ?_
 clear hsp
 rintro e w3 ⟨rfl,rfl⟩
 have hmL:New w2 (w2.alloc (.cells (strCs (pieces s ampB)) 9)):=(Mod.refl _ _).alloc _
 have hL:=Blk.new w2 9 (strCs (pieces s ampB))
 have HLW:Hid (w.heap.size≤w2.heap.size):=hId hm2.size
 have HM:=hId (hm2.trans hmL)
 have HL:=hId hL
 clear hmL hL hm2
 generalize pieces s ampB=segs at *
 generalize w2.alloc (.cells (strCs segs) 9)=w4 at *
 generalize w2.heap.size=L at *
 go_wp2_with fail
 go_loopw [5,23] (fun o i wr=>∃(k n c:Nat) (A:Option Addr) (qs:List PairD),k≤segs.length∧i= .int .i64 k∧o= .slice A n c∧Hid (QryTo segs k qs)∧n≤k∧Hid (Own wr (L+1) 52 2 pairEnc A n c qs)∧Hid (Blk wr L 9 (strCs segs))∧Hid (New w wr)) (fun _ i _=>segs.length -(intOf i).toNat)
 case atStart=>exact⟨0,0,0,none,[],Nat.zero_le _,rfl,rfl,hId (QryTo.start _),Nat.le_refl _,hId Own.nil,HL,HM⟩
 case round=>
  clear HM HL
  rename World=>wr
  obtain⟨k,n,c,A,qs,hk,rfl,rfl,HD,hnk,HO,HL,HM⟩:=hrel
  have HOF:Hid (∀ g',blkOf A=some g'→L+1≤g'):=hId (fun g' e=>HO.out.farS g' e)
  have hLr:=HL.out.lt
  by_cases hlt:k<segs.length
  ·have hce:=strs_at HL.out k hlt
   rw [strCs_at hlt]at hce
   have hxz:=HPL.out _ (List.getElem_mem hlt)
   have HSK:=hId (fun e=>HD.out.skip hlt e)
   have HMO:=hId (fun p e h=>HD.out.more (p:=p) hlt e h)
   have HBD:=hId (fun e h=>HD.out.bad hlt e h)
   have hb1:(0:Int)≤k:=by omega
   have hb2:(k:Int)<segs.length:=by omega
   generalize segs[k]=x at *
   have e1:=const_eq x []
   by_cases hx0:x=⟨#[]⟩
   ·have HD1:=hId (HSK.out hx0)
    rw [decide_eq_true hx0]at e1
    clear hx0 HSK HMO HBD
    go_wp2_with fail
    go_roundw
    case rel=>exact⟨k+1,n,c,A,qs,by omega,by go_num,rfl,HD1,by omega,HO,HL,HM⟩
    case measure=>simp [intOf];omega
   rw [decide_eq_false hx0]at e1
   have HMO1:=hId (fun p h=>HMO.out p hx0 h)
   have HBD1:=hId (fun h=>HBD.out hx0 h)
   clear HSK HMO HBD hx0
   have hcut:=cut_at x 61 wr (by omega) (HX.out.new HM.out)
   have hcl:=cutL_le 61 x.data.toList
   have hxl:x.data.toList.length=x.size:=rfl
   have HPQ:Hid (pairQ x=match decL (plusL (⟨(cutL 61 x.data.toList).1.toArray⟩:ByteArray).data.toList),decL (plusL (⟨(cutL 61 x.data.toList).2.1.toArray⟩:ByteArray).data.toList)with
    | some a,some b=>some (⟨a.toArray⟩,⟨b.toArray⟩)
    | _,_=>none):=hId rfl
   have hz1:(⟨(cutL 61 x.data.toList).1.toArray⟩:ByteArray).size≤1000:=by show(List.toArray _).size≤_;rw [List.size_toArray];omega
   have hz2:(⟨(cutL 61 x.data.toList).2.1.toArray⟩:ByteArray).size≤1000:=by show(List.toArray _).size≤_;rw [List.size_toArray];omega
   generalize (⟨(cutL 61 x.data.toList).1.toArray⟩:ByteArray)=c1 at *
   generalize (⟨(cutL 61 x.data.toList).2.1.toArray⟩:ByteArray)=c2 at *
   generalize (cutL 61 x.data.toList).2.2=c3 at *
   clear hcl hxl
   have d1:=fun W=>msg_decodedP c1 W (by omega)
   have d2:=fun W=>msg_decodedP c2 W (by omega)
   go_wp2_with fail
   refine hcut.mono ?_
   clear hcut
   rintro e w5 ⟨rfl,m5⟩
   have HO5:=hId (HO.out.new m5)
   have HL5:=hId (HL.out.new2 m5)
   have HM5:=hId (HM.out.trans m5)
   clear HO HL HM m5 hce hLr
   cases g1:decL (plusL c1.data.toList)with
   | none=>
    have HN:Hid (pairQ x=none):=hId (by rw [HPQ.out,g1])
    have HF:Hid (queryOf s=(9,[])):=hId (by rw [HQ.out,HBD1.out HN.out])
    rw [decV_none g1]at d1
    have q2:∃ a b,decV (plusL c2.data.toList)= .tuple #[.string a,.bool b]:=by
     unfold decV
     cases decL (plusL c2.data.toList) <;> exact⟨_,_,rfl⟩
    obtain⟨a2,b2,q2⟩:=q2
    rw [q2]at d2
    clear g1 HPQ HN q2
    go_wp2_with fail
    refine(d1 _).mono ?_
    clear d1
    rintro e w6 ⟨rfl,m6⟩
    have HM6:=hId (HM5.out.trans m6)
    clear m6
    go_wp2_with fail
    refine(d2 _).mono ?_
    clear d2
    rintro e w7 ⟨rfl,m7⟩
    have HM7:=hId (HM6.out.trans m7)
    clear m7
    go_wp2_with fail
    go_ret2
    exact RQry.fault HF.out HM7.out
   | some o1=>
    rw [decV_some g1]at d1
    cases g2:decL (plusL c2.data.toList)with
    | none=>
     have HN:Hid (pairQ x=none):=hId (by rw [HPQ.out,g1,g2])
     have HF:Hid (queryOf s=(9,[])):=hId (by rw [HQ.out,HBD1.out HN.out])
     rw [decV_none g2]at d2
     clear g1 g2 HPQ HN
     go_wp2_with fail
     refine(d1 _).mono ?_
     clear d1
     rintro e w6 ⟨rfl,m6⟩
     have HM6:=hId (HM5.out.trans m6)
     clear m6
     go_wp2_with fail
     refine(d2 _).mono ?_
     clear d2
     rintro e w7 ⟨rfl,m7⟩
     have HM7:=hId (HM6.out.trans m7)
     clear m7
     go_wp2_with fail
     go_ret2
     exact RQry.fault HF.out HM7.out
    | some o2=>
     have HN:Hid (pairQ x=some (⟨o1.toArray⟩,⟨o2.toArray⟩)):=hId (by rw [HPQ.out,g1,g2])
     have HD1:=hId (HMO1.out _ HN.out)
     rw [decV_some g2]at d2
     clear g1 g2 HPQ HN HMO1 HBD1
     generalize (⟨o1.toArray⟩:ByteArray)=an at *
     generalize (⟨o2.toArray⟩:ByteArray)=av at *
     go_wp2_with fail
     refine(d1 _).mono ?_
     clear d1
     rintro e w6 ⟨rfl,m6⟩
     have HO6:=hId (HO5.out.new m6)
     have HL6:=hId (HL5.out.new2 m6)
     have HM6:=hId (HM5.out.trans m6)
     clear m6 HO5 HL5 HM5
     go_wp2_with fail
     refine(d2 _).mono ?_
     clear d2
     rintro e w7 ⟨rfl,m7⟩
     have HO7:=hId (HO6.out.new m7)
     have HL7:=hId (HL6.out.new2 m7)
     have HM7:=hId (HM6.out.trans m7)
     clear m7 HO6 HL6 HM6
     have hLr7:=HL7.out.lt
     have hBq:L+1≤(w7.alloc (.cells #[.string an,.string av] 52)).heap.size:=by simp;omega
     have HOA:=HO7.out.alloc (.cells #[.string an,.string av] 52)
     have hBn:=Blk.new w7 52 #[.string an,.string av]
     go_wp2_with (at_builtin;refine wpList_push rfl _ _ _ rfl 32 Tryz.underlying27 einfo_pair rfl HOA (an,av) w7.heap.size rfl hBn (fun j hj=>pairEnc_one _ j hj) (by omega) (by omega) hBq ?_;intro g8 cap8 w8 own8 hm8 hat8 hlt8)
     have HO8:=hId own8
     have HL8:=hId ((HL7.out.new2 ((Mod.refl _ _).alloc (.cells #[.string an,.string av] 52))).mod hm8 (fun e=>by have:=HOF.out L e;omega))
     have HM8:Hid (New w w8):=hId ((HM7.out.alloc (.cells #[.string an,.string av] 52)).step hm8 (fun i hi e=>by have:=HOF.out i e;have:=HLW.out;omega))
     clear own8 hm8
     go_roundw
     case rel=>exact⟨k+1,_,cap8,some ⟨g8,0,none⟩,_,by omega,by go_num,rfl,HD1,by omega,HO8,HL8,HM8⟩
     case measure=>simp [intOf];omega
  ·obtain rfl:k=segs.length:=by omega
   have hql:qs.length=n:=HO.out.1
   have HF:Hid (queryOf s=if 100<n then(2,[]) else(0,qs)):=hId (by rw [HQ.out,HD.out.done];show(if 100<qs.length then((2:Int),([]:List PairD)) else(0,qs))=_;rw [hql])
   clear hql
   by_cases h100:100<n
   ·have h100':(100:Int)<(n:Int):=by omega
    have HF1:=hId (HF.out.trans (if_pos h100))
    clear HF h100
    go_wp2_with fail
    go_ret2
    exact RQry.fault HF1.out HM.out
   ·have h100':¬ (100:Int)<(n:Int):=by omega
    have HF1:=hId (HF.out.trans (if_neg h100))
    clear HF h100
    go_wp2_with fail
    go_ret2
    exact⟨_,_,_,by rw [HF1.out];rfl,by rw [HF1.out];exact HO.out.less (by have:=HLW.out;omega),HM.out⟩
theorem append_zeroH {P:Program} {t e:TypeId} (ht:P.underlying t=some (.slice e)) {i:TypeInfo} (hi:P.info? e=some i) (a b:Addr) (c:Nat) (ty:TypeId) (w:World):
  (Builtin.append_ #[t,t] ty #[.slice (some a) 0 0,.slice (some b) 0 c]).run P w= .ok (.slice (some a) 0 0) w:=by
 have hl:=run_loadCells_list (P:=P) w b [] (by simp)
 simp at hl
 simp [Builtin.append_,run_underlying ht,sizeOf,typeInfo,hi,Builtin.lenOf,Builtin.firstCells,hl,storeCells]
theorem wpList_append_by2H {P:Program} {w w':World} {ops:Array Oper} {rest:List Oper} {o:Oper} {a:Act} {Q:Exit→Act→World→Prop} (hgd:o.guard=none) (s x:Operand) (t t2:TypeId)
  (ho:o.op= .call {callee:=.builtin .append,args:=#[s,x],argTypes:=#[t,t2]}) {v1 v2 v:Value} (hs:a.eval s=v1) (hx:a.eval x=v2) (hr:∀ ty,(Builtin.append_ #[t,t2] ty #[v1,v2]).run P w= .ok v w')
  (h:wpList P ops Q rest (a.put o.dst v) w'):wpList P ops Q (o::rest) a w:=by
 refine wpList_plain hgd fun K hK=>?_
 unfold Oper.wp execOp
 simp only [ho,resolve,invoke,builtin,Sem.run_bind,Sem.run_pure,Result.andThen_ok,List.map_toArray,List.map_cons,List.map_nil,hs,hx,hr]
 exact hK _ _ h
/-- what append does to a row of the call's own -/
theorem Own.push_modH {α:Type} {a w w':World} {B:Nat} {t:TypeId} {sz:Nat} {enc:α→Nat→Value} {A:Option Addr} {n c:Nat} {xs:List α} (h:Own w B t sz enc A n c xs) (hm:New a w) (hg:Mod (fun k=>blkOf A=some k) w w') (hB:a.heap.size≤B):New a w':=
 hm.step hg (fun i hi e=>by
  rcases h.blk with⟨h1,_⟩ |⟨g,h1,h2,_⟩
  ·rw [h1]at e;cases e
  ·rw [h1]at e;injection e with e;simp only at e;omega)
def RCloneH (w:World) (n:Nat) (ls:List PairD) (e:Ending) (w':World):Prop:=∃ A c,e= .returned (.slice A n c)∧Own w' w.heap.size 54 2 pairEnc A n c ls∧New w w'
set_option maxHeartbeats 1000000 in
theorem cloneH (ls:List PairD) (A:Option Addr) (n c:Nat) (w:World) (hl:Sl w 54 2 pairEnc A n ls) (hn:n≤200000):
  Calls Tryz.prog 151 #[.slice A n c] w (RCloneH w n ls):=by
 have hown:Own (w.alloc (.cells #[] 54)) w.heap.size 54 2 pairEnc (some ⟨w.heap.size,0,none⟩) 0 0 ([]:List PairD):=Own.of_blk (xs:=[]) (Blk.new _ _ _) (Nat.le_refl _) rfl (by omega)
 by_cases h0:0<n
 ·obtain⟨g,o,rfl,_⟩:=hl.2 h0
  have hq:=fun w:World=>Lib.run_eql_slice_nil (P:=Tryz.prog) w 31 54 (some ⟨g,o,none⟩) n c 0 0 Tryz.underlying31
  simp at hq
  have hm0:New w (w.alloc (.cells #[] 54)):=(Mod.refl _ _).alloc _
  go_enter Tryz.func151,Tryz.ntmps151
  go_wp2_with (at_builtin;refine wpList_pushAll rfl _ _ _ rfl 32 Tryz.underlying31 einfo_hdr rfl hown ls g o n c rfl (hl.new hm0) h0 (fun y _ j hj=>pairEnc_one y j hj) (by omega) (by omega) (by simp) ?_;intro g1 cap w1 hown1 hm1 hat hlt1)
  simp only [Nat.zero_add,List.nil_append]at hown1
  go_ret
  exact⟨_,_,by simp,hown1,hown.push_modH hm0 hm1 (Nat.le_refl _)⟩
 ·obtain rfl:n=0:=by omega
  obtain rfl:ls= []:=List.eq_nil_of_length_eq_zero hl.1
  have hq:=fun w:World=>Lib.run_eql_slice_nil (P:=Tryz.prog) w 31 54 A 0 c 0 0 Tryz.underlying31
  clear hl
  cases A with
  | none=>
   simp at hq
   go_enter Tryz.func151,Tryz.ntmps151
   go_wp2_with fail
   go_ret
   exact⟨none,0,rfl,Own.nil,Mod.refl _ _⟩
  | some a=>
   simp at hq
   obtain⟨i,z,hi0,_⟩:=einfo_hdr
   have HO:=hId hown
   have hap:=fun ty=>append_zeroH (P:=Tryz.prog) Tryz.underlying31 hi0 ⟨w.heap.size,0,none⟩ a c ty (w.alloc (.cells #[] 54))
   clear hown
   go_enter Tryz.func151,Tryz.ntmps151
   go_wp2_with (at_builtin;refine wpList_append_by2H rfl _ _ 31 31 rfl rfl rfl hap ?_)
   go_ret
   exact⟨_,_,rfl,HO.out,(Mod.refl _ _).alloc _⟩
theorem Only.setQ {b:Nat} {w w':World} (h:Only b w w') (i:Nat) (u:Value):Only b w (w'.setCell ⟨b,i,none⟩ u):=Mod.setCell (S:=fun k=>k=b) (p:=⟨b,i,none⟩) h (.inl rfl) u
theorem flat_setQ {α:Type} (enc:α→Nat→Value) (y:α):∀(xs:List α) (i:Nat),i<xs.length→
  ((xs.flatMap (encL 2 enc)).set (i * 2) (enc y 0)).set (i * 2+1) (enc y 1)=(xs.set i y).flatMap (encL 2 enc)
 | [],i,h=>by simp at h
 | x::xs,0,_=>by simp [encL,List.range_succ,List.range_zero]
 | x::xs,i+1,h=>by
  have ih:=flat_setQ enc y xs i (by simpa using h)
  have e:(i+1) * 2=i * 2+2:=by omega
  rw [e,show i * 2+2+1=i * 2+1+2 by omega]
  simp only [List.flatMap_cons,lss]
  rw [← ih]
  simp [encL,List.range_succ,List.range_zero]
theorem Own.setQ {α:Type} {w:World} {B:Nat} {t:TypeId} {enc:α→Nat→Value} {n c g:Nat} {xs:List α} (h:Own w B t 2 enc (some ⟨g,0,none⟩) n c xs) {i:Nat} (hi:i<xs.length) (y:α):
  Own ((w.setCell ⟨g,i * 2,none⟩ (enc y 0)).setCell ⟨g,i * 2+1,none⟩ (enc y 1)) B t 2 enc (some ⟨g,0,none⟩) n c (xs.set i y):=
 ⟨by simpa using h.1,by rw [← flat_setQ enc y xs i hi];exact((h.2.stored _ _).1.stored _ _).1⟩
/-- the place of the first one among the first n, or -1 -/
def firstIx (b:Nat→Bool):Nat→Int
 | 0=>-1
 | n+1=>if firstIx b n= -1 then(if b n then n else -1) else firstIx b n
theorem firstIx_none {b:Nat→Bool} {n:Nat} (h:∀ i,i<n→b i=false):firstIx b n= -1:=by
 induction n with
 | zero=>rfl
 | succ n ih=>rw [firstIx,ih (fun i hi=>h i (by omega)),h n (by omega)];simp
theorem firstIx_hit {b:Nat→Bool} {n k:Nat} (hk:k<n) (ht:b k=true) (h:∀ i,i<k→b i=false):firstIx b n=k:=by
 induction n with
 | zero=>omega
 | succ n ih=>
  rw [firstIx]
  by_cases e:k=n
  ·subst e;rw [firstIx_none h,ht];simp
  ·rw [ih (by omega)];rw [if_neg (by omega)]
theorem firstIx_cases (b:Nat→Bool) (n:Nat):(firstIx b n= -1∧∀ i,i<n→b i=false)∨∃ k,k<n∧firstIx b n=k∧b k=true∧∀ i,i<k→b i=false:=by
 induction n with
 | zero=>exact .inl ⟨rfl,fun i hi=>absurd hi (by omega)⟩
 | succ n ih=>
  rcases ih with⟨h1,h2⟩ |⟨k,hk,h1,h2,h3⟩
  ·cases hb:b n
   ·have h4:∀ i,i<n+1→b i=false:=fun i hi=>by
     by_cases e:i=n
     ·subst e;exact hb
     ·exact h2 i (by omega)
    exact .inl ⟨firstIx_none h4,h4⟩
   ·exact .inr ⟨n,by omega,firstIx_hit (by omega) hb h2,hb,h2⟩
  ·exact .inr ⟨k,by omega,firstIx_hit (by omega) h2 h3,h2,h3⟩
/-- a function that asks about a pair, whatever the row A holds meanwhile -/
def DPred (w:World) (A:Option Addr) (F:Nat) (f:PairD→Bool) (ms:List PairD):Prop:=
 ∀ m∈ms,∀ wr,Mod (fun k=>blkOf A=some k) w wr→Calls Tryz.prog F #[pairVal m] wr fun e w'=>e= .returned (.bool (f m))∧New wr w'
set_option maxHeartbeats 1000000 in
theorem indexFunc_q (F:Nat) (eg:∀ args w,(callFunc F args).run Tryz.prog w= .ok (.enter F args) w) (w:World) (A:Option Addr) (n c:Nat) (ms:List PairD) (f:PairD→Bool) (hs:Sl w 52 2 pairEnc A n ms) (hF:DPred w A F f ms) (hn:n≤100000):
  Calls Tryz.prog 128 #[.slice A n c,.func (.func F) #[] #[]] w fun e w'=>e= .returned (.int .i64 (firstIx (fun i=>(ms[i]?).any (f)) n))∧New w w':=by
 have HS:=hId hs
 have HF:=hId hF
 have HL:=hId hs.1
 obtain⟨b,hb⟩:∃ b:Nat→Bool,b=(fun i=>(ms[i]?).any (f)):=⟨_,rfl⟩
 rw [← hb]
 have HB:=hId hb
 clear hs hF hb
 go_enter Tryz.func128,Tryz.ntmps128
 go_wp2_with fail
 go_loopw [5,8] (fun _ i wr=>∃ k:Nat,k≤n∧i= .int .i64 k∧Hid (New w wr)∧Hid (∀ j,j<k→b j=false)) (fun _ i _=>n -(intOf i).toNat)
 case atStart=>exact⟨0,Nat.zero_le _,rfl,hId (Mod.refl _ _),hId (fun j hj=>absurd hj (by omega))⟩
 case round=>
  rename World=>wr
  obtain⟨k,hk,rfl,HM,HA⟩:=hrel
  by_cases hlt:k<n
  ·have hkx:k<ms.length:=by have:=HL.out;omega
   obtain⟨g,o,hA,htb,hc0⟩:=(HS.out.new HM.out).2 (by omega)
   have hgl:=htb.lt
   have hc:=fun q (hq:q<2)=>hc0 k hkx q hq
   have hbk:b k=f ms[k]:=by rw [HB.out];simp [hkx]
   have HBK:=hId hbk
   clear hc0 htb hbk
   have hcall:=HF.out ms[k] (List.getElem_mem hkx) wr (HM.out.mono (fun _ _ e=>e.elim))
   generalize ms[k]=y at *
   subst hA
   have hb1:(0:Int)≤k:=by omega
   have hb2:(k:Int)<n:=by omega
   obtain⟨yn0,yv0⟩:=y
   have b0:=hc 0 (by omega)
   have b1:=hc 1 (by omega)
   simp only [pairEnc,Nat.add_zero,Nat.zero_add]at b0 b1
   clear hc
   try simp only [pairVal]at hcall
   try simp only at HBK
   generalize f (yn0,yv0)=r at *
   go_wp2_with fail
   refine hcall.mono ?_
   clear hcall
   rintro e w5 ⟨rfl,m5⟩
   have HM5:=hId (HM.out.trans m5)
   clear m5
   cases r with
   | true=>
    go_wp2_with fail
    go_ret
    exact⟨ret_int (firstIx_hit hlt HBK.out HA.out).symm,HM5.out⟩
   | false=>
    go_wp2_with fail
    go_roundw
    case rel=>exact⟨k+1,by omega,by go_num,HM5,hId (fun j hj=>by
     by_cases e:j=k
     ·subst e;exact HBK.out
     ·exact HA.out j (by omega))⟩
    case measure=>simp [intOf];omega
  ·obtain rfl:k=n:=by omega
   go_wp2_with fail
   go_ret
   exact⟨ret_int (firstIx_none HA.out).symm,HM.out⟩
theorem take_filter_snocQ {α:Type} {ob:List α} {p:α→Bool} {j:Nat} (hj:j<ob.length):(ob.take (j+1)).filter (fun x=>!p x)=(ob.take j).filter (fun x=>!p x)++(if p ob[j] then [] else [ob[j]]):=by
 rw [List.take_succ_eq_append_getElem hj,List.filter_append]
 cases h:p ob[j] <;> simp [h]
theorem zero_q (w:World):(zeroValue 52).run Tryz.prog w= .ok (.agg #[.string ⟨#[]⟩,.string ⟨#[]⟩]) w:=by kernel_rfl
def RDelQ (w:World) (B:Nat) (A:Option Addr) (c:Nat) (ys:List PairD) (e:Ending) (w':World):Prop:=
 e= .returned (.slice A ys.length c)∧Own w' B 52 2 pairEnc A ys.length c ys∧Mod (fun k=>blkOf A=some k) w w'
set_option maxRecDepth 100000 in
set_option maxHeartbeats 1000000 in
theorem deleteFunc_q (F:Nat) (eg:∀ args w,(callFunc F args).run Tryz.prog w= .ok (.enter F args) w) (w:World) (B:Nat) (A:Option Addr) (n c:Nat) (ms:List PairD) (f:PairD→Bool) (hs:Own w B 52 2 pairEnc A n c ms) (hF:DPred w A F f ms) (hn:n≤100000):
  Calls Tryz.prog 111 #[.slice A n c,.func (.func F) #[] #[]] w (RDelQ w B A c (ms.filter fun m=>!f m)):=by
 have hlen:=hs.1
 have hif:=indexFunc_q F eg w A n c ms f hs.sl hF hn
 obtain⟨b,hb⟩:∃ b:Nat→Bool,b=(fun i=>(ms[i]?).any (f)):=⟨_,rfl⟩
 rw [← hb]at hif
 have hbi:∀ i (h:i<ms.length),b i=f ms[i]:=fun i h=>by rw [hb];simp [h]
 rcases firstIx_cases b n with⟨hfx,hall⟩ |⟨i0,hi0,hfx,hp0,hmin⟩
 ·rw [hfx]at hif
  have hfil:ms.filter (fun m=>!f m)=ms:=by
   rw [List.filter_eq_self]
   intro a ha
   obtain⟨i,hi,rfl⟩:=List.getElem_of_mem ha
   have:=hall i (by omega)
   rw [hbi i hi]at this
   rw [this];rfl
  rw [hfil]
  have HS:=hId hs
  have HL:=hId hlen
  clear hs hF hall hfil hfx hlen hbi hb
  go_enter Tryz.func111,Tryz.ntmps111
  go_wp2_with fail
  refine hif.mono ?_
  clear hif
  rintro e w5 ⟨rfl,m5⟩
  go_wp2_with fail
  go_ret
  exact⟨by rw [HL.out];rfl,by rw [HL.out];exact HS.out.new m5,m5.mono (fun _ _ e=>e.elim)⟩
 ·rw [hfx]at hif
  have hi0':i0<ms.length:=by omega
  have hp0':f ms[i0]=true:=by rw [← hbi i0 hi0'];exact hp0
  have hpre:(ms.take i0).filter (fun m=>!f m)=ms.take i0:=by
   rw [List.filter_eq_self]
   intro a ha
   obtain⟨i,hi,rfl⟩:=List.getElem_of_mem ha
   have hi':i<i0:=by simp at hi;omega
   have:=hmin i hi'
   rw [hbi i (by omega)]at this
   simp only [List.getElem_take]
   rw [this];rfl
  have hne:((i0:Int) == -1)=false:=beq_eq_false_iff_ne.2 (by omega)
  obtain⟨g,hA,hBg,htb0,hnc,hcm⟩:=hs.form (by omega)
  subst hA
  unfold maxLen at hcm
  have HS:=hId hs
  have HF:=hId hF
  have HL:=hId hlen
  have HP:=hId hp0'
  have HPRE:=hId hpre
  clear hs hF hmin hfx hlen hp0 hp0' hpre hbi hb htb0
  go_enter Tryz.func111,Tryz.ntmps111
  go_wp2_with fail
  refine hif.mono ?_
  clear hif
  rintro e w5 ⟨rfl,m5⟩
  have HM5:=hId m5
  clear m5
  go_wp2_with fail
  go_loopw [5,6] (fun si sj wr=>∃(i j:Nat) (L:List PairD),i<j∧j≤n∧si= .int .i64 i∧sj= .int .i64 j∧Hid (Own wr B 52 2 pairEnc (some ⟨g,0,none⟩) n c L)∧Hid (Only g w wr)∧Hid (L.take i=(ms.take j).filter (fun x=>!f x))∧Hid (L.drop j=ms.drop j)∧Hid (i0<j)∧Hid (((ms.take j).filter (fun x=>!f x)).length=i)) (fun _ sj _=>n -(intOf sj).toNat)
  case atStart=>
   have e1:(ms.take (i0+1)).filter (fun x=>!f x)=ms.take i0:=by rw [take_filter_snocQ hi0',HP.out,HPRE.out];simp
   refine⟨i0,i0+1,ms,by omega,by omega,rfl,by go_num,hId (HS.out.new HM5.out),hId (HM5.out.mono (fun _ _ e=>e.elim)),hId ?_,hId rfl,hId (by omega),hId ?_⟩
   ·rw [e1]
   ·rw [e1];simp;omega
  case round=>
   rename World=>wr
   obtain⟨i,j,L,hij,hj,rfl,rfl,HOWN,HMOD,HT,HD,H0,HLN⟩:=hrel
   have hLl:=HOWN.out.1
   by_cases hlt:j<n
   ·have hjo:j<ms.length:=by rw [HL.out];exact hlt
    have hLj:L[j]'(by omega)=ms[j]:=by
     have:=congrArg (fun l=>l[0]?) HD.out
     simpa [List.getElem?_drop,List.getElem?_eq_getElem hjo,List.getElem?_eq_getElem (show j<L.length by omega)]using this
    obtain⟨g',o',hA,htb,hc0⟩:=HOWN.out.sl.2 (by omega)
    injection hA with hA
    injection hA with hA1 hA2
    subst hA1 hA2
    have hgl:=htb.lt
    have hc:∀ q,q<2→wr.cell? ⟨g,0+j * 2+q,none⟩=some (pairEnc ms[j] q):=fun q hq=>by rw [hc0 j (by omega) q hq];exact congrArg (fun z=>some (pairEnc z q)) hLj
    have hcall:=HF.out ms[j] (List.getElem_mem hjo) (wr.alloc (.cells #[.string ms[j].1,.string ms[j].2] 52)) ((HMOD.out.mono (fun k _ e=>by subst e;rfl)).trans ((Mod.refl _ _).alloc _))
    have HSN:=hId (take_filter_snocQ (p:=f) hjo)
    have hb1:(0:Int)≤j:=by omega
    have hb2:(j:Int)<n:=by omega
    have hb3:(0:Int)≤i:=by omega
    have hb4:(i:Int)<n:=by omega
    have HDD:Hid (L.drop (j+1)=ms.drop (j+1)):=hId (by
     have:=congrArg (List.drop 1) HD.out
     simpa [List.drop_drop]using this)
    have HLL:=hId hLl
    have m6:New wr (wr.alloc (.cells #[.string ms[j].1,.string ms[j].2] 52)):=(Mod.refl _ _).alloc _
    have h6:=Blk.new wr 52 #[.string ms[j].1,.string ms[j].2]
    have hiL:i<L.length:=by omega
    clear hLj hLl hc0 htb
    generalize ms[j]=y at *
    obtain⟨yn0,yv0⟩:=y
    have b0:=hc 0 (by omega)
    have b1:=hc 1 (by omega)
    simp only [pairEnc,Nat.add_zero,Nat.zero_add]at b0 b1
    clear hc
    try simp only at m6 h6 hcall
    try simp only [pairVal]at hcall
    go_upto_region 8 with(fail)
    have HM6:=hId m6
    have H6:=hId h6
    generalize wr.alloc (.cells #[.string yn0,.string yv0] 52)=w6 at *
    have d0:=h6.cell 0
    have d1:=h6.cell 1
    have dl:=h6.lt
    simp only [lqt,lqz,lqs]at d0 d1
    clear b0 b1 m6 h6 hgl
    have HYY:Hid (f (yn0,yv0)=f (yn0,yv0)):=hId rfl
    generalize f (yn0,yv0)=r at hcall HSN
    go_wp2_with fail
    refine hcall.mono ?_
    clear hcall
    rintro e w7 ⟨rfl,m7⟩
    have own7:=(HOWN.out.new HM6.out).new m7
    have H7:=hId (H6.out.mod m7 (fun e=>e))
    have HMOD7:=hId ((HMOD.out.trans (HM6.out.mono (fun _ _ e=>e.elim))).trans (m7.mono (fun _ _ e=>e.elim)))
    clear d0 d1 dl m7
    cases r with
    | true=>
     have HOWN7:=hId own7
     clear own7
     have e2:(ms.take (j+1)).filter (fun x=>!f x)=(ms.take j).filter (fun x=>!f x):=by rw [HSN.out];simp
     have HE2:=hId e2
     clear e2
     go_wp2_with fail
     go_roundw
     case rel=>exact⟨i,j+1,L,by omega,by omega,rfl,by go_num,HOWN7,HMOD7,hId (by rw [HE2.out];exact HT.out),HDD,hId (by have:=H0.out;omega),hId (by rw [HE2.out];exact HLN.out)⟩
     case measure=>simp [intOf];omega
    | false=>
     have e2:(ms.take (j+1)).filter (fun x=>!f x)=(ms.take j).filter (fun x=>!f x)++ [(yn0,yv0)]:=by rw [HSN.out];simp
     have HE2:=hId e2
     clear e2
     obtain⟨g',o',hA,htb,hc0⟩:=own7.sl.2 (by omega)
     injection hA with hA
     injection hA with hA1 hA2
     subst hA1 hA2
     have hc:=fun q (hq:q<2)=>hc0 i hiL q hq
     have gf:=own7.frozen
     have gl:=htb.lt
     have own8:=own7.setQ hiL ((yn0,yv0):PairD)
     simp only [pairEnc]at own8
     have HOWN8:=hId own8
     have o8:Only g w7 ((w7.setCell ⟨g,i * 2,none⟩ (.string yn0)).setCell ⟨g,i * 2+1,none⟩ (.string yv0)):=Only.setQ (Only.setQ (Mod.refl _ _) _ _) _ _
     have HO8:=hId o8
     generalize L[i]'(by omega)=z at *
     obtain⟨zn0,zv0⟩:=z
     have b0:=hc 0 (by omega)
     have b1:=hc 1 (by omega)
     simp only [pairEnc,Nat.add_zero,Nat.zero_add]at b0 b1
     clear hc hc0 htb own7 own8 o8
     have d0:=H7.out.cell 0
     have d1:=H7.out.cell 1
     have dl:=H7.out.lt
     simp only [lqt,lqz,lqs]at d0 d1
     go_wp2_with fail
     go_roundw
     case rel=>
      have hll:=HLL.out
      refine⟨i+1,j+1,L.set i (yn0,yv0),by omega,by omega,by go_num,by go_num,HOWN8,hId (HMOD7.out.trans HO8.out),hId ?_,hId ?_,hId (by have:=H0.out;omega),hId ?_⟩
      ·rw [HE2.out,←HT.out,List.take_succ_eq_append_getElem (by simp;omega),List.getElem_set_self,List.take_set_of_le (by omega)]
      ·rw [List.drop_set_of_lt (by omega)];exact HDD.out
      ·rw [HE2.out,List.length_append,HLN.out];rfl
     case measure=>simp [intOf];omega
   ·obtain rfl:j=n:=by omega
    have hfull:ms.take j=ms:=List.take_of_length_le (by rw [HL.out];omega)
    obtain⟨w2,hcl,hown2,hon2,hz2⟩:=HOWN.out.clear_tail (P:=Tryz.prog) (ts:=27) Tryz.underlying27 (zero_q wr) (by simp [Value.cells];repeat' (first | rfl | constructor)) rfl (by omega) i (i * 2) (c -i) (by omega) (by omega)
    have hb3:(0:Int)≤i:=by omega
    have hb4:(i:Int)<j:=by omega
    have hb5:i<c:=by omega
    have HO2:=hId hown2
    have HON2:=hId hon2
    have HFU:=hId hfull
    clear hown2 hz2 hfull hLl hon2
    go_wp2_with fail
    go_ret
    have e3:=HLN.out
    have e4:=HT.out
    rw [HFU.out]at e3 e4
    refine⟨by rw [e3];rfl,?_,(HMOD.out.trans HON2.out).mono (fun k _ e=>by subst e;rfl)⟩
    rw [e3,←e4]
    exact HO2.out
end Go.Proofs.YtnlloaimplgjnaaGreatDoor
