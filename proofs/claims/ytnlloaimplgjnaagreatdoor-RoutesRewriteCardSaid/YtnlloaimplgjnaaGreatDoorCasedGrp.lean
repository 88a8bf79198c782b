/- Several texts in one. (1) The reference: cased, a text's letters made great or small. Conditions: a text of modest size. (2) cmp.Or: the first that is not nought. No conditions. -/
import Derived.Test.YtnlloaimplgjnaaGreatDoorTpl3Grp
import Derived.Test.YtnlloaimplgjnaaGreatDoorMatLawGrp
import Derived.Test.YtnlloaimplgjnaaGreatDoorNormGrp
import Derived.Laws.BytesArg
import Derived.Lib.ConvBytes
import Derived.Lib.AtoiErrMem
import Derived.Test.YtnlloaimplgjnaaGreatDoorRtLawGrp
namespace Go.Proofs.YtnlloaimplgjnaaGreatDoor
open Go.RowKit
set_option linter.unusedVariables false
set_option linter.unusedSimpArgs false
/-- block g holds a conversion's row of bytes, which reads as l -/
def BRow (w:World) (g:Nat) (l:List UInt8):Prop:=∃ cur fz,w.heap[g]? =some (.cells cur 5 fz)∧l.length≤fz.1∧∀ i (h:i<l.length),cur[i]? =some (.int .u8 (l[i].toNat:Int))
theorem BRow.lt {w:World} {g:Nat} {l:List UInt8} (h:BRow w g l):g<w.heap.size:=by obtain⟨_,_,h,_⟩:=h;exact heap_lt h
theorem BRow.cell {w:World} {g:Nat} {l:List UInt8} (h:BRow w g l) {i:Nat} (hi:i<l.length):w.cell? ⟨g,i,none⟩=some (.int .u8 (l[i].toNat:Int)):=by
 obtain⟨cur,fz,h1,h2,h3⟩:=h
 rw [← h3 i hi]
 simp [World.cell?,h1]
theorem BRow.frozen {w:World} {g:Nat} {l:List UInt8} (h:BRow w g l) {i:Nat} (hi:i<l.length):w.frozen? ⟨g,i,none⟩=false:=by
 obtain⟨cur,⟨lo,hi'⟩,h1,h2,h3⟩:=h
 simp only at h2
 simp [World.frozen?,h1]
 omega
theorem BRow.set {w:World} {g:Nat} {l:List UInt8} (h:BRow w g l) {i:Nat} (hi:i<l.length) (c:UInt8):BRow (w.setCell ⟨g,i,none⟩ (.int .u8 (c.toNat:Int))) g (l.set i c):=by
 obtain⟨cur,fz,h1,h2,h3⟩:=h
 refine⟨cur.setIfInBounds i (.int .u8 (c.toNat:Int)),fz,?_,by simpa using h2,fun j hj=>?_⟩
 ·simp [World.setCell,Array.getElem?_modify,h1]
 ·have hj':j<l.length:=by simpa using hj
  rw [Array.getElem?_setIfInBounds,List.getElem_set]
  by_cases e:i=j
  ·subst e
   have hc:i<cur.size:=by
    have:=h3 i hi
    rcases Nat.lt_or_ge i cur.size with h | h
    ·exact h
    ·rw [Array.getElem?_eq_none h]at this;cases this
   simp [hc]
  ·rw [if_neg e,if_neg e]
   exact h3 j hj'
theorem BRow.mod {S:Nat→Prop} {w w':World} {g:Nat} {l:List UInt8} (h:BRow w g l) (hm:Mod S w w') (hs:¬ S g):BRow w' g l:=by
 obtain⟨cur,fz,h1,h2,h3⟩:=h
 exact⟨cur,fz,(hm.block g (heap_lt h1) hs).trans h1,h2,h3⟩
theorem BRow.conv (w:World) (s:ByteArray):BRow (Lib.bytesWorld w 5 s) w.heap.size s.data.toList:=by
 refine⟨_,_,Lib.bytesWorld_at_new w 5 s,?_,fun i hi=>?_⟩
 ·show s.size≤(Lib.bytesCells w 5 s).size
  unfold Lib.bytesCells
  simp
 ·unfold Lib.bytesCells
  have hi':i<s.data.size:=hi
  rw [Array.getElem?_append_left (by simpa using hi')]
  rw [Array.getElem?_map,Array.getElem?_eq_getElem hi']
  rfl
theorem BRow.string {w:World} {g n c:Nat} {l:List UInt8} (h:BRow w g l) (hn:l.length=n):
  (convert 107 9 (.slice (some ⟨g,0,none⟩) n c)).run Tryz.prog w= .ok (.string ⟨l.toArray⟩) w:=by
 have:=run_convert_bytes_arg (P:=Tryz.prog) w 107 5 Tryz.underlying107 Tryz.underlying5 g 0 n c (l.map fun x=>(x.toNat:Int)) (by simp [hn]) (fun i hi=>by
  rw [Nat.zero_add,h.cell (by omega)]
  simp [List.getD_eq_getElem?_getD,show i<l.length by omega]) 9 Tryz.underlying9
 have e:strOfNums (l.map fun x=>(x.toNat:Int))=⟨l.toArray⟩:=by
  unfold strOfNums
  rw [List.map_map]
  have hid:((fun n:Int=>UInt8.ofNat n.toNat)∘fun x:UInt8=>(x.toNat:Int))=id:=by
   funext x
   simp
  rw [hid,List.map_id]
 rw [e]at this
 exact this
/-- a letter made small, or great -/
def caseC (small:Bool) (c:UInt8):UInt8:=if small then Lib.lowerB c else Lib.upperB c
def caseTest (small:Bool) (c:Nat):Bool:=(decide (65≤c)&&decide (c≤90)&&small)||(decide (97≤c)&&decide (c≤122)&& !small)
theorem caseC_no (small:Bool) (c:UInt8) (h:caseTest small c.toNat=false):caseC small c=c:=by
 revert h
 revert c
 cases small
 ·apply byteOf
  decide +kernel
 ·apply byteOf
  decide +kernel
theorem caseC_yes (small:Bool) (c:UInt8) (h:caseTest small c.toNat=true):((caseC small c).toNat:Int)=bits BinOp.xor IntKind.u8 (c.toNat:Int) 32:=by
 revert h
 revert c
 cases small
 ·apply byteOf
  decide +kernel
 ·apply byteOf
  decide +kernel
theorem case_at (small:Bool) (l:List UInt8) {k:Nat} (h:k<l.length):((l.take k).map (caseC small)++l.drop k)[k]? =some l[k]∧((l.take k).map (caseC small)++l.drop k).set k (caseC small l[k])=(l.take (k+1)).map (caseC small)++l.drop (k+1):=by
 have hk:((l.take k).map (caseC small)).length=k:=by rw [List.length_map,List.length_take];omega
 constructor
 ·rw [List.getElem?_append_right (by omega),hk,Nat.sub_self,List.drop_eq_getElem_cons h]
  rfl
 ·rw [List.set_append_right _ _ (by omega),hk,Nat.sub_self,List.drop_eq_getElem_cons h,lsz,List.take_succ_eq_append_getElem h,List.map_append]
  simp
set_option maxHeartbeats 1000000 in
theorem ref_cased (s:ByteArray) (small:Bool) (w:World) (hs:s.size≤1000000):
  Calls Tryz.prog 40 #[.string s,.bool small] w fun e w'=>e= .returned (.string ⟨(s.data.toList.map (caseC small)).toArray⟩)∧New w w':=by
 have hcv:=Lib.run_convert_string_bytes (P:=Tryz.prog) w 9 107 5 s Tryz.underlying9 Tryz.underlying107 Tryz.underlying5
 have hb:=BRow.conv w s
 have hn:New w (Lib.bytesWorld w 5 s):=Mod.of_below (Lib.bytesWorld_below w 5 s)
 have hl:s.data.toList.length=s.size:=rfl
 generalize hcap:grownCap w s.size 0 5=cap at *
 obtain⟨l,hls⟩:∃ l,s.data.toList=l:=⟨_,rfl⟩
 rw [hls]at hb hl ⊢
 go_enter Tryz.func40,Tryz.ntmps40
 go_wp2_with fail
 have HN:=hId hn
 have HB:=hId hb
 have HSZ:=hId (Lib.bytesWorld_size w 5 s)
 clear hcv hb hn hcap
 generalize Lib.bytesWorld w 5 s=w1 at *
 go_loopw [12] (fun i wr=>∃ k:Nat,k≤s.size∧i= .int .i64 k∧Hid (BRow wr w.heap.size ((l.take k).map (caseC small)++l.drop k))∧Hid (New w wr)) (fun i _=>s.size -(intOf i).toNat)
 case atStart=>exact⟨0,Nat.zero_le _,rfl,hId (by simpa using HB.out),HN⟩
 case round=>
  rename World=>wr
  obtain⟨k,hk,rfl,HR,HM⟩:=hrel
  have hlen:∀ k,k≤l.length→((l.take k).map (caseC small)++l.drop k).length=l.length:=fun k hk=>by rw [List.length_append,List.length_map,List.length_take,List.length_drop];omega
  by_cases hlt:k<s.size
  ·have hkl:k<l.length:=by omega
   obtain⟨q1,q2⟩:=case_at small l hkl
   have hkq:k<((l.take k).map (caseC small)++l.drop k).length:=by rw [hlen k (by omega)];omega
   have hc:=HR.out.cell hkq
   rw [List.getElem?_eq_getElem hkq]at q1
   injection q1 with q1
   rw [q1]at hc
   have hgl:=HR.out.lt
   have hfr:=HR.out.frozen hkq
   have HSET:=hId (by have h:=HR.out.set hkq (caseC small l[k]);rwa [q2]at h)
   have HO:Hid (∀ v,New w (wr.setCell ⟨w.heap.size,k,none⟩ v)):=hId (fun v=>HM.out.step (Mod.setCell (S:=fun q=>q=w.heap.size) (p:=⟨w.heap.size,k,none⟩) (Mod.refl _ _) (.inl rfl) v) (fun i hi e=>by omega))
   have HNO:=hId (caseC_no small l[k])
   have HYES:=hId (caseC_yes small l[k])
   have hb2:(0:Int)≤k:=by omega
   have hb3:(k:Int)<s.size:=by omega
   clear q1 q2
   have HRN:Hid (caseC small l[k]=l[k]→BRow wr w.heap.size ((l.take (k+1)).map (caseC small)++l.drop (k+1))):=hId (fun e=>by
    have h2:=(case_at small l hkl).2
    have h1:=(case_at small l hkl).1
    rw [e]at h2
    rw [← h2]
    rw [List.getElem?_eq_getElem hkq]at h1
    injection h1 with h1
    have h3:((l.take k).map (caseC small)++l.drop k).set k l[k]=(l.take k).map (caseC small)++l.drop k:=by
     conv=>lhs;rw [← h1]
     exact List.set_getElem_self hkq
    rw [h3]
    exact HR.out)
   generalize l[k]=c at *
   have hcase:(caseTest small c.toNat=true∧((65≤(c.toNat:Int)∧(c.toNat:Int)≤90∧small=true)∨(¬ 65≤(c.toNat:Int)∨65≤(c.toNat:Int)∧¬ (c.toNat:Int)≤90)∧97≤(c.toNat:Int)∧(c.toNat:Int)≤122∧small=false))∨
     (caseTest small c.toNat=false∧(((65≤(c.toNat:Int)∧(c.toNat:Int)≤90∧small=false)∧¬ 97≤(c.toNat:Int))∨((¬ 65≤(c.toNat:Int)∨65≤(c.toNat:Int)∧¬ (c.toNat:Int)≤90)∧((¬ 97≤(c.toNat:Int)∨97≤(c.toNat:Int)∧¬ (c.toNat:Int)≤122)∨97≤(c.toNat:Int)∧(c.toNat:Int)≤122∧small=true)))):=by
    unfold caseTest
    cases small <;> simp <;> omega
   rcases hcase with⟨ht,hcs⟩ |⟨ht,hcs⟩
   ·have hv:=HYES.out ht
    have HV:=hId hv
    rw [hv]at HSET
    clear hv ht HNO HYES
    rcases hcs with⟨c1,c2,rfl⟩ |⟨c0,c1,c2,rfl⟩
    ·go_wp2_with fail
     exact⟨⟨k+1,by omega,by go_num,HSET,hId (HO.out _)⟩,by simp [intOf];omega⟩
    ·rcases c0 with c0 |⟨c0,c3⟩
     ·exact absurd c1 (by omega)
     ·go_wp2_with fail
      exact⟨⟨k+1,by omega,by go_num,HSET,hId (HO.out _)⟩,by simp [intOf];omega⟩
   ·have HB2:=hId (HRN.out (HNO.out ht))
    clear ht HNO HYES HRN HSET
    rcases hcs with⟨⟨c1,c2,rfl⟩,c3⟩ |⟨c0,c1⟩
    ·go_wp2_with fail
     exact⟨⟨k+1,by omega,by go_num,HB2,HM⟩,by simp [intOf];omega⟩
    ·rcases c0 with c0 |⟨c0,c4⟩
     all_goals rcases c1 with(c1 |⟨c1,c5⟩) |⟨c1,c5,rfl⟩
     all_goals go_wp2_with fail
     all_goals exact⟨⟨k+1,by omega,by go_num,HB2,HM⟩,by simp [intOf];omega⟩
  ·obtain rfl:k=s.size:=by omega
   have hfull:(l.take s.size).map (caseC small)++l.drop s.size=l.map (caseC small):=by rw [← hl,List.take_length,List.drop_length,List.append_nil]
   rw [hfull]at HR
   have hst:=HR.out.string (n:=s.size) (c:=cap) (by rw [List.length_map];exact hl)
   go_wp2_with fail
   go_ret
   exact⟨rfl,HM.out⟩
def orL:List Int→Int
 | []=>0
 | x::xs=>if x=0 then orL xs else x
theorem orL_drop {xs:List Int} {k:Nat} (h:k<xs.length):orL (xs.drop k)=if xs[k]=0 then orL (xs.drop (k+1)) else xs[k]:=by
 rw [List.drop_eq_getElem_cons h,orL]
set_option maxHeartbeats 1000000 in
theorem cmpOr_any (xs:List Int) (g n:Nat) (w:World) (hb:Blk w g 37 (xs.map (Value.int .i64)).toArray) (hn:xs.length=n) (hn2:n≤1000):
  Calls Tryz.prog 12 #[.slice (some ⟨g,0,none⟩) n n] w fun e w'=>e= .returned (.int .i64 (orL xs))∧w=w':=by
 go_enter Tryz.func12,Tryz.ntmps12
 go_wp2_with fail
 go_loop [5,8] (fun _ i=>∃ k:Nat,k≤n∧i= .int .i64 k∧orL xs=orL (xs.drop k)) (fun _ i=>n -(intOf i).toNat)
 case atStart=>exact⟨0,Nat.zero_le _,rfl,by simp⟩
 case round=>
  obtain⟨k,hk,rfl,hor⟩:=hrel
  have HO:=hId hor
  clear hor
  by_cases hlt:k<n
  ·have hc:=hb.cell k
   rw [show (xs.map (Value.int .i64)).toArray[k]? =some (.int .i64 (xs[k]'(by omega)))by simp]at hc
   have HD:=hId (orL_drop (xs:=xs) (k:=k) (by omega))
   generalize xs[k]'(by omega)=x at *
   have hb1:(0:Int)≤k:=by omega
   have hb2:(k:Int)<n:=by omega
   by_cases hx:x=0
   ·subst hx
    go_wp2_with fail
    go_round
    case rel=>exact⟨k+1,by omega,by go_num,by rw [HO.out,HD.out];simp⟩
    case measure=>simp [intOf];omega
   ·have hx':(x != 0)=true:=by simp [hx]
    go_wp2_with fail
    go_ret
    exact⟨ret_int (by rw [HO.out,HD.out,if_neg hx]),rfl⟩
  ·obtain rfl:k=n:=by omega
   go_wp2_with fail
   go_ret
   exact⟨ret_int (by rw [HO.out,List.drop_of_length_le (by omega)];rfl),rfl⟩
end Go.Proofs.YtnlloaimplgjnaaGreatDoor
