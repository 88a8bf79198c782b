/- Several texts in one. (1) The units of a path in their normal form (package message: normalUnits). Conditions: a text of modest size. (2) Rows that a call owns: storing into one, clearing its tail, cutting it short. No conditions. (3) A path in its normal form (package message: NormalPath). Conditions: a text of modest size; the library's variable on searching is an int. -/
import Derived.Test.YtnlloaimplgjnaaGreatDoorSeg3Grp
import Derived.Test.YtnlloaimplgjnaaGreatDoorMatLawGrp
import Derived.Shelf.Abstract
import Derived.Test.YtnlloaimplgjnaaGreatDoorTpl3Grp
import Derived.Test.YtnlloaimplgjnaaGreatDoorRtLawGrp
import Derived.Test.YtnlloaimplgjnaaGreatDoorHeldGrp
namespace Go.Proofs.YtnlloaimplgjnaaGreatDoor
open Go.RowKit
set_option linter.unusedVariables false
set_option linter.unusedSimpArgs false
theorem normL_at_plain {s:List UInt8} {i:Nat} (h:i<s.length) (h1:s[i]≠37):normL (s.drop i)=(normL (s.drop (i+1))).map ([s[i]]++ ·):=by
 unfold normL
 rw [unitsL_at_plain h h1]
 cases unitsL (s.drop (i+1)) <;> simp [normC]
theorem normL_at_unit {s:List UInt8} {i:Nat} (h:i<s.length) (h1:s[i]=37) (h2:unitAt s i=true):
  normL (s.drop i)=(normL (s.drop (i+3))).map (normC (unitV (s.getD (i+1) 0) (s.getD (i+2) 0),false)++ ·):=by
 unfold normL
 rw [unitsL_at_unit h h1 h2]
 cases unitsL (s.drop (i+3)) <;> simp
theorem normL_at_bad {s:List UInt8} {i:Nat} (h:i<s.length) (h1:s[i]=37) (h2:unitAt s i=false):normL (s.drop i)=none:=by
 unfold normL
 rw [unitsL_at_bad h h1 h2];rfl
def normV (s:List UInt8):Value:=match normL s with
 | none=>.tuple #[.string ⟨#[]⟩,.bool false]
 | some o=>.tuple #[.string ⟨o.toArray⟩,.bool true]
theorem normV_none {s:List UInt8} (h:normL s=none):normV s= .tuple #[.string ⟨#[]⟩,.bool false]:=by unfold normV;rw [h]
theorem normV_some {s o:List UInt8} (h:normL s=some o):normV s= .tuple #[.string ⟨o.toArray⟩,.bool true]:=by unfold normV;rw [h]
/-- what has been read of s up to place k gives o -/
def NormTo (s:List UInt8) (k:Nat) (o:List UInt8):Prop:=normL s=(normL (s.drop k)).map (o++ ·)∧o.length≤3 * k
theorem NormTo.start (s:List UInt8):NormTo s 0 []:=⟨by simp,Nat.le_refl _⟩
theorem NormTo.plain {s:List UInt8} {k:Nat} {o:List UInt8} (h:NormTo s k o) (hk:k<s.length) (h1:s[k]≠37):NormTo s (k+1) (o++ [s[k]]):=by
 refine⟨?_,by have:=h.2;simp;omega⟩
 rw [h.1,normL_at_plain hk h1]
 cases normL (s.drop (k+1)) <;> simp
theorem NormTo.unit {s:List UInt8} {k:Nat} {o:List UInt8} (h:NormTo s k o) (hk:k<s.length) (h1:s[k]=37) (h2:unitAt s k=true):NormTo s (k+3) (o++normC (unitV (s.getD (k+1) 0) (s.getD (k+2) 0),false)):=by
 refine⟨?_,by have:=h.2;have:=normC_length (unitV (s.getD (k+1) 0) (s.getD (k+2) 0),false);rw [List.length_append];omega⟩
 rw [h.1,normL_at_unit hk h1 h2]
 cases normL (s.drop (k+3)) <;> simp
theorem NormTo.bad {s:List UInt8} {k:Nat} {o:List UInt8} (h:NormTo s k o) (hk:k<s.length) (h1:s[k]=37) (h2:unitAt s k=false):normL s=none:=by
 rw [h.1,normL_at_bad hk h1 h2];rfl
theorem NormTo.done {s:List UInt8} {k:Nat} {o:List UInt8} (h:NormTo s k o) (hk:s.length≤k):normL s=some o:=by
 rw [h.1,List.drop_eq_nil_of_le hk];simp [normL,unitsL]
set_option maxRecDepth 100000 in
set_option maxHeartbeats 2000000 in
theorem msg_normalUnits (s:ByteArray) (w:World) (hs:s.size≤300000):
  Calls Tryz.prog 90 #[.string s] w fun e w'=>e= .returned (normV s.data.toList)∧New w w':=by
 have hb0:=Blk.new w 109 #[.pointer none,.slice none 0 0]
 have hm0:New w (w.alloc (.cells #[.pointer none,.slice none 0 0] 109)):=(Mod.refl _ _).alloc _
 go_enter Tryz.func90,Tryz.ntmps90
 go_upto_region 2 with(fail)
 generalize w.alloc (.cells #[.pointer none,.slice none 0 0] 109)=w1 at *
 generalize hbe:w.heap.size=B at *
 have HB:=hId (Bw.fresh hb0 (Nat.le_refl _))
 have HM:=hId hm0
 have HBE:=hId hbe
 clear hb0 hm0 hbe
 go_wp2_with fail
 go_loopw [5] (fun i wr=>∃(k:Nat) (o:List UInt8),k≤s.size∧i= .int .i64 k∧Hid (NormTo s.data.toList k o)∧Hid (Bw 109 B B o wr)∧Hid (New w wr)) (fun i _=>s.size -(intOf i).toNat)
 case atStart=>exact⟨0,[],Nat.zero_le _,rfl,hId (NormTo.start _),HB,HM⟩
 case round=>
  clear HB HM
  rename World=>wr
  obtain⟨k,o,hk,rfl,HD,HB,HM⟩:=hrel
  by_cases hlt:k<s.size
  ·have hkl:k<s.data.toList.length:=hlt
   have HG:Hid (s.data.toList[k]=s[k]):=hId rfl
   have HL:Hid (o.length+1≤1000000):=hId (by have:=HD.out.2;omega)
   have HLL:Hid (o.length≤900000):=hId (by have:=HD.out.2;omega)
   have hu:=msg_isUnit s k wr (by omega) hlt
   have HKL:=hId hkl
   by_cases h37:s[k]=37
   ·have c1:((s[k].toNat:Int) != 37)=false:=by rw [h37];rfl
    have H37:Hid (s.data.toList[k]'HKL.out=37):=hId (HG.out.trans h37)
    clear h37
    cases hua:unitAt s.data.toList k <;> rw [hua]at hu
    ·have HN:=hId (HD.out.bad HKL.out H37.out hua)
     clear hua
     go_wp2_with (first |(refine hu.mono ?_;clear hu;rintro e w' ⟨rfl,rfl⟩))
     go_ret2
     exact⟨congrArg Ending.returned (normV_none HN.out).symm,HM.out⟩
    ·have hun:=msg_unit s k wr (by omega) hua
     have hk3:k+3≤s.size:=(unit_two hua).2.2.2
     have HD1:=hId (HD.out.unit HKL.out H37.out hua)
     clear hua HD
     generalize unitV (s.data.toList.getD (k+1) 0) (s.data.toList.getD (k+2) 0)=c at *
     have n1:((k:Int)+2+1).toNat=k+3:=by omega
     have hf:=fun W=>msg_isFree c W
     have hpc:=fun W=>msg_percent c W
     have HPC:=hId hpc
     clear hpc
     cases hfr:freeN c.toNat <;> rw [hfr]at hf
     ·have HQ:Hid (normC (c,false)= [37,upHex (c.toNat / 16),upHex (c.toNat % 16)]):=hId (by unfold normC pctC;simp [hfr])
      have HF:=hId hf
      clear hfr hf
      go_wp2_with (first |(refine hu.mono ?_;clear hu;rintro e w' ⟨rfl,rfl⟩) |(refine hun.mono ?_;clear hun;rintro e w2 ⟨rfl,hm2⟩))
      refine(HF.out w2).mono ?_
      clear HF
      rintro e w' ⟨rfl,rfl⟩
      have HB2:=hId (HB.out.new hm2)
      have HM2:Hid (New w w2):=hId (HM.out.trans hm2)
      clear HB HM hm2
      go_wp2_with fail
      refine(HPC.out w2).mono ?_
      clear HPC
      rintro e w3 ⟨rfl,hm3⟩
      have HB3:=hId (HB2.out.new hm3)
      have HM3:Hid (New w w3):=hId (HM2.out.trans hm3)
      clear HB2 HM2 hm3
      have h3:(⟨#[37,upHex (c.toNat / 16),upHex (c.toNat % 16)]⟩:ByteArray).size=3:=rfl
      have HU:Hid ((⟨#[37,upHex (c.toNat / 16),upHex (c.toNat % 16)]⟩:ByteArray).data.toList=normC (c,false)):=hId HQ.out.symm
      clear HQ
      generalize (⟨#[37,upHex (c.toNat / 16),upHex (c.toNat % 16)]⟩:ByteArray)=U at *
      go_wp2_with fail
      refine(bw_string buT_self B B o U w3 HB3.out (by have:=HLL.out;omega)).mono ?_
      clear h3
      rintro e w4 ⟨rfl,hb4,hm4,-⟩
      have HM4:=hId (HM3.out.from hm4 (Nat.le_of_eq HBE.out))
      have HB4:=hId hb4
      clear hb4 hm4 HB3 HM3
      go_wp2_with fail
      go_roundw
      case rel=>exact⟨k+3,_,by omega,by go_num,HD1,by rw [← HU.out];exact HB4,HM4⟩
      case measure=>simp [intOf];omega
     ·have HQ:Hid (normC (c,false)= [c]):=hId (by unfold normC;simp [hfr])
      have HF:=hId hf
      clear hfr hf HPC
      go_wp2_with (first |(refine hu.mono ?_;clear hu;rintro e w' ⟨rfl,rfl⟩) |(refine hun.mono ?_;clear hun;rintro e w2 ⟨rfl,hm2⟩))
      refine(HF.out w2).mono ?_
      clear HF
      rintro e w' ⟨rfl,rfl⟩
      have HB2:=hId (HB.out.new hm2)
      have HM2:Hid (New w w2):=hId (HM.out.trans hm2)
      clear HB HM hm2
      have HB:=HB2
      have HM:=HM2
      clear HB2 HM2
      go_wp2_with fail
      refine(bw_byte buT_self B B _ c _ (by first | rfl |(exact HC.out.symm)) _ HB.out (by have hq:=HL.out;first | omega |(simp;done) |(simp at hq ⊢;omega))).mono ?_
      rintro e wz ⟨rfl,hb1,hm1,-⟩
      have HM1:=hId (HM.out.from hm1 (Nat.le_of_eq HBE.out))
      clear HB HM hm1
      have HB:=hId hb1
      have HM:=HM1
      clear hb1 HM1
      go_wp2_with fail
      go_roundw
      case rel=>exact⟨k+3,_,by omega,by go_num,HD1,by rw [HQ.out];exact HB,HM⟩
      case measure=>simp [intOf];omega
   ·have c1:((s[k].toNat:Int) != 37)=true:=by
     simp only [bne_iff_ne,ne_eq]
     intro h
     exact h37 (UInt8.toNat_inj.1 (by have:(37:UInt8).toNat=37:=rfl;omega))
    have HD1:=hId (HD.out.plain HKL.out (by rw [HG.out];exact h37))
    rw [HG.out]at HD1
    clear HD h37 hu
    go_wp2_with fail
    refine(bw_byte buT_self B B _ s[k] _ (by first | rfl |(exact HC.out.symm)) _ HB.out (by have hq:=HL.out;first | omega |(simp;done) |(simp at hq ⊢;omega))).mono ?_
    rintro e wz ⟨rfl,hb1,hm1,-⟩
    have HM1:=hId (HM.out.from hm1 (Nat.le_of_eq HBE.out))
    clear HB HM hm1
    have HB:=hId hb1
    have HM:=HM1
    clear hb1 HM1
    go_wp2_with fail
    go_roundw
    case rel=>exact⟨k+1,_,by omega,by go_num,HD1,HB,HM⟩
    case measure=>simp [intOf];omega
  ·obtain rfl:k=s.size:=by omega
   have HN:=hId (HD.out.done (Nat.le_refl _))
   go_wp2_with fail
   refine(bw_any B B o _ HB.out).mono ?_
   rintro e w2 ⟨rfl,hm2⟩
   have HM2:=hId (HM.out.from hm2 (Nat.le_of_eq HBE.out))
   clear hm2 HB HM
   go_wp2_with fail
   go_ret2
   exact⟨congrArg Ending.returned (normV_some HN.out).symm,HM2.out⟩
section
variable {α:Type} {w w':World} {B:Nat} {t:TypeId} {sz:Nat} {enc:α→Nat→Value} {A:Option Addr} {n c:Nat} {xs:List α} {P:Program}
/-- a row that is known by its first elements, whatever else lies behind them -/
theorem Own.row {g:Nat} (h:Own w B t sz enc (some ⟨g,0,none⟩) n c xs):∃ cur,Blk w g t cur∧B≤g∧n≤c∧c≤maxLen∧cur.size=c * sz∧cur.toList.take (n * sz)=xs.flatMap (encL sz enc):=by
 rcases h.2.2 with⟨hv,hn⟩ |⟨g',cap,cur,hv,hB,hh,hc1,hc2,hs,ht⟩
 ·cases hv
 ·injection hv with h1 h2 h3
  injection h1 with h1
  injection h1 with h1
  subst h1 h3
  exact⟨cur,hh,hB,hc1,hc2,hs,ht⟩
theorem Own.of_row {g:Nat} {cur:Array Value} (hb:Blk w g t cur) (hB:B≤g) (hn:n≤c) (hc:c≤maxLen) (hs:cur.size=c * sz) (hl:xs.length=n) (ht:cur.toList.take (n * sz)=xs.flatMap (encL sz enc)):Own w B t sz enc (some ⟨g,0,none⟩) n c xs:=
 ⟨hl,by rw [flat_length,hl],.inr ⟨g,c,cur,rfl,hB,hb,hn,hc,hs,ht⟩⟩
theorem flat_take (xs:List α) (i:Nat):(xs.take i).flatMap (encL sz enc)=(xs.flatMap (encL sz enc)).take (i * sz):=by
 induction xs generalizing i with
 | nil=>simp
 | cons x xs ih=>
  cases i with
  | zero=>simp
  | succ i=>
   rw [List.take_succ_cons,List.flatMap_cons,List.flatMap_cons,ih,List.take_append,encL_length,Nat.succ_mul,Nat.add_sub_cancel,List.take_of_length_le (l:=encL sz enc x) (by rw [encL_length];omega)]
/-- a shorter slice of the same row -/
theorem Own.cut {g:Nat} (h:Own w B t sz enc (some ⟨g,0,none⟩) n c xs) {i:Nat} (hi:i≤n):Own w B t sz enc (some ⟨g,0,none⟩) i c (xs.take i):=by
 obtain⟨cur,hb,hB,hn,hc,hs,ht⟩:=h.row
 have hl:=h.1
 refine Own.of_row hb hB (by omega) hc hs (by simp;omega) ?_
 rw [flat_take,←ht,List.take_take,Nat.min_eq_left (Nat.mul_le_mul_right sz hi)]
theorem Own.frozen {g:Nat} (h:Own w B t sz enc (some ⟨g,0,none⟩) n c xs) (i:Nat):w.frozen? ⟨g,i,none⟩=false:=by
 obtain⟨cur,hb,_⟩:=h.row;exact hb.frozen i
theorem Own.cell1 {enc:α→Nat→Value} {g:Nat} (h:Own w B t 1 enc (some ⟨g,0,none⟩) n c xs) {i:Nat} (hi:i<xs.length):w.cell? ⟨g,i,none⟩=some (enc xs[i] 0):=by
 obtain⟨g',o',hA,hg,hc⟩:=h.sl.2 (by have:=h.1;omega)
 injection hA with hA
 injection hA with h1 h2
 subst h1 h2
 have:=hc i hi 0 (by omega)
 simpa using this
theorem Blk.setRow {g:Nat} {cur cur':Array Value} (h:Blk w g t cur):Blk (w.setRow g cur') g t cur':=setRow_heap w g cur cur' t (0,0) h
theorem Mod.setRow {S:Nat→Prop} {a:World} {g:Nat} {cur:Array Value} (h:Mod S a w) (hg:S g∨a.heap.size≤g):Mod S a (w.setRow g cur):=by
 refine⟨h.os,h.tape,h.output,by simpa [World.setRow]using h.size,fun i hi hs=>?_⟩
 rw [← h.block i hi hs]
 have hne:i≠g:=by
  rintro rfl
  rcases hg with hg | hg
  ·exact hs hg
  ·omega
 simp [World.setRow,Array.getElem?_modify,hne.symm]
/-- clear of a slice of nothing -/
theorem run_clear_none (w:World) {ts t ty:TypeId} (ht:P.underlying ts=some (.slice t)) (a:Option Addr) (c:Nat):(Builtin.clear_ #[ts] ty #[.slice a 0 c]).run P w= .ok (.tuple #[]) w:=by
 cases a <;> simp [Builtin.clear_,run_underlying ht]
/-- clear of a part of a block: what lies ahead of it stays -/
theorem run_clear_part {g:Nat} {cur:Array Value} (hb:Blk w g t cur) {ts:TypeId} (ht:P.underlying ts=some (.slice t)) {z:Value} (hz:(zeroValue t).run P w= .ok z w) (h1:∀ v∈z.cells.toList,v.oneCell'=true) (hzs:z.cells.size=sz) (hsz:0<sz) (o m c:Nat) (ho:o+m * sz≤cur.size):
  ∃ cur',(∀ ty,(Builtin.clear_ #[ts] ty #[.slice (some ⟨g,o,none⟩) m c]).run P w= .ok (.tuple #[]) (w.setRow g cur'))∧cur'.size=cur.size∧cur'.toList.take o=cur.toList.take o:=by
 have hlen:(Builtin.zeroCells z.cells m).toList.length=m * sz:=by simp [Builtin.zeroCells,hzs]
 have hst:=run_storeCells_at (P:=P) g o t (Builtin.zeroCells z.cells m).toList 0 cur w hb (by rw [hlen];omega) (by
  intro v hv
  simp only [Builtin.zeroCells,Array.toList_map,List.mem_map]at hv
  obtain⟨i,_,rfl⟩:=hv
  have hi:i % z.cells.size<z.cells.size:=Nat.mod_lt _ (by omega)
  rw [getElem!_pos z.cells _ hi]
  exact h1 _ (by simp))
 simp only [Nat.add_zero]at hst
 cases m with
 | zero=>
  refine⟨cur,fun ty=>?_,rfl,rfl⟩
  rw [run_clear_none w ht,setRow_self w g cur t (0,0) hb]
 | succ m=>
  refine⟨(cur.toList.take o++(Builtin.zeroCells z.cells (m+1)).toList++cur.toList.drop (o+(Builtin.zeroCells z.cells (m+1)).toList.length)).toArray,fun ty=>?_,?_,?_⟩
  ·simp [Builtin.clear_,run_underlying ht,hz,hst]
  ·have hl:cur.toList.length=cur.size:=by simp
   simp only [List.size_toArray,List.length_append,List.length_take,List.length_drop,hlen,hl]
   omega
  ·rw [List.append_assoc,List.take_append_of_le_length (by simp;omega),List.take_take,Nat.min_self]
/-- clear of the tail of a row that the call owns -/
theorem Own.clear_tail {g:Nat} (h:Own w B t sz enc (some ⟨g,0,none⟩) n c xs) {ts:TypeId} (ht:P.underlying ts=some (.slice t)) {z:Value} (hz:(zeroValue t).run P w= .ok z w) (h1:∀ v∈z.cells.toList,v.oneCell'=true) (hzs:z.cells.size=sz) (hsz:0<sz) (i o c':Nat) (hi:i<n) (ho:o=i * sz):
  ∃ w',(∀ ty,(Builtin.clear_ #[ts] ty #[.slice (some ⟨g,o,none⟩) (n -i) c']).run P w= .ok (.tuple #[]) w')∧Own w' B t sz enc (some ⟨g,0,none⟩) i c (xs.take i)∧Only g w w'∧w'.heap.size=w.heap.size:=by
 subst ho
 obtain⟨cur,hb,hB,hn,hc,hs,htk⟩:=h.row
 have hl:=h.1
 have hle:i * sz+(n -i) * sz≤cur.size:=by
  rw [← Nat.add_mul,hs];exact Nat.mul_le_mul_right sz (by omega)
 obtain⟨cur',hr,hs',ht'⟩:=run_clear_part (P:=P) hb ht hz h1 hzs hsz (i * sz) (n -i) c' hle
 refine⟨_,hr,Own.of_row hb.setRow hB (by omega) hc (by omega) (by simp;omega) ?_,(Mod.refl _ _).setRow (.inl rfl),by simp [World.setRow]⟩
 rw [ht',flat_take,←htk,List.take_take,Nat.min_eq_left (Nat.mul_le_mul_right sz (by omega))]
end
/-- append of one element that lies in a block of its own, in a region that draws its order -/
theorem wp_push {α:Type} {w:World} {B:Nat} {t:TypeId} {sz:Nat} {enc:α→Nat→Value} {A:Option Addr} {n c:Nat} {xs:List α} {P:Program} {o:Oper} {a:Act} {K:Act→World→Prop} {Q:Exit→Act→World→Prop} (s x:Operand) (ts:TypeId)
  (ho:o.op= .call {callee:=.builtin .append,args:=#[s,x],argTypes:=#[ts,ts]}) (bytes:Nat) (ht:P.underlying ts=some (.slice t)) (hi:EInfo P t sz bytes)
  (hs:a.eval s= .slice A n c) (hown:Own w B t sz enc A n c xs) (y:α) (g0:Nat) (hx:a.eval x= .slice (some ⟨g0,0,none⟩) 1 1) (hb:Blk w g0 t (encL sz enc y).toArray)
  (h1:∀ j,j<sz→(enc y j).oneCell'=true) (hn:n+1<1000000) (hbytes:bytes≤1000000) (hB:B≤w.heap.size)
  (h:∀ g cap w',Own w' B t sz enc (some ⟨g,0,none⟩) (n+1) cap (xs++ [y])→Mod (fun k=>blkOf A=some k) w w'→(blkOf A=some g∨g=w.heap.size)→g<w'.heap.size→
   K (a.put o.dst (.slice (some ⟨g,0,none⟩) (n+1) cap)) w'):Oper.wp P o a w K Q:=by
 obtain⟨i,z,hi0,hz,hsz,hby,hzs,h0⟩:=hi
 refine wp_append_lies w s x ts ho B t i z sz bytes ht hi0 hz hsz hby hzs h0 _ n _ hs hown.2 ⟨g0,0,none⟩ 1 1 (encL sz enc y) hx (by rw [encL_length];omega) ?_ ?_ (by omega) (by unfold maxLen;omega) ?_ hB _ rfl ?_
 ·have:=World.news_of_block hb
  simpa using this
 ·intro u hu
  simp only [encL,List.mem_map,List.mem_range]at hu
  obtain⟨j,hj,rfl⟩:=hu
  exact h1 j hj
 ·have:(n+1) * bytes≤1000000 * 1000000:=Nat.mul_le_mul (by omega) hbytes
  omega
 ·intro g cap w' hown' hg hat hlt
  rw [ownBlock_eq]at hg hat
  refine h g cap w' ⟨by simp [hown.1],by simpa using hown'⟩ ?_ hat hlt
  exact(Mod.refl (fun k=>blkOf A=some k) w).grown hg (fun k e=>.inl e)
theorem const_eq (x:ByteArray) (l:List UInt8):(x.toList == l)=decide (x=⟨l.toArray⟩):=by
 rw [Bool.eq_iff_iff,ByteArray.toList_eq]
 simp only [beq_iff_eq,decide_eq_true_eq]
 constructor
 ·intro h
  exact ByteArray.ext (by rw [← h])
 ·rintro rfl
  rfl
theorem dotsF_at {segs:List ByteArray} {k:Nat} (h:k<segs.length) (st:List ByteArray):
  dotsF (segs.drop k) st=if segs[k]=dot1 then dotsF (segs.drop (k+1)) (if decide (k+1=segs.length) then st++ [emptyB] else st)
   else if segs[k]=dot2 then dotsF (segs.drop (k+1)) (if decide (k+1=segs.length) then st.dropLast++ [emptyB] else st.dropLast) else dotsF (segs.drop (k+1)) (st++ [segs[k]]):=by
 rw [List.drop_eq_getElem_cons h,dotsF]
 have:(segs.drop (k+1)).isEmpty=decide (k+1=segs.length):=by
  rw [Bool.eq_iff_iff,List.isEmpty_iff,List.drop_eq_nil_iff,decide_eq_true_eq]
  omega
 rw [this]
theorem pathBad_ok {l:List UInt8} (h:pathBad l=0):l.length≤1000∧∃ r,l=47::r:=by
 unfold pathBad at h
 split at h
 ·cases h
 ·rename_i h1
  split at h
  ·cases h
  ·rename_i h2
   refine⟨by omega,?_⟩
   cases l with
   | nil=>simp [Lib.hasPrefix,List.isPrefixOf]at h2
   | cons a r=>
    simp [Lib.hasPrefix,List.isPrefixOf]at h2
    exact⟨r,by rw [h2]⟩
theorem pieces_count {t:ByteArray} {Z:Nat} (h:t.size≤Z):(pieces t slB).length≤Z+1:=by
 rw [pieces_length (show 1≤(slB:ByteArray).size from Nat.le_refl _)]
 have:=Lib.countB_le slB (Nat.le_refl _) t.size t (Nat.le_refl _)
 omega
theorem strCs_at {segs:List ByteArray} {k:Nat} (h:k<segs.length):segs.getD k ByteArray.empty=segs[k]:=by
 rw [List.getD_eq_getElem?_getD,List.getElem?_eq_getElem h];rfl
theorem extract_tail (l:List UInt8):(⟨(47::l).toArray⟩:ByteArray).extract 1 (⟨(47::l).toArray⟩:ByteArray).size=⟨l.toArray⟩:=by
 have h:((⟨(47::l).toArray⟩:ByteArray).extract 1 (⟨(47::l).toArray⟩:ByteArray).size).data.toList=l:=by
  rw [extract_data]
  show((47::l).drop 1).take (List.toArray (47::l)).size.pred=l
  simp
 exact ByteArray.ext (Array.toList_inj.mp (by rw [h]))
/-- the dots carried out, however far: what Join is given -/
def DotsTo (segs:List ByteArray) (k:Nat) (st:List ByteArray):Prop:=dotsF segs []=dotsF (segs.drop k) st∧st.length≤k∧∀ y∈st,y.size≤3000
set_option maxRecDepth 100000 in
set_option maxHeartbeats 1500000 in
theorem msg_normalPath (s:ByteArray) (w:World) (hs:s.size≤100000) (hx:MaxLn w):
  Calls Tryz.prog 32 #[.string s] w (RTxt (pathN s) w):=by
 have hpf:=msg_pathFault s w (by omega)
 have hsl:s.data.toList.length=s.size:=rfl
 by_cases hp:pathBad s.data.toList=0
 rotate_left
 ·have HQ:Hid (pathN s=(pathBad s.data.toList,[])):=hId (by unfold pathN;rw [if_pos hp])
  generalize pathBad s.data.toList=pb at *
  have hp':((pb:Int) != 0)=true:=by simpa using hp
  clear hp
  go_enter Tryz.func32,Tryz.ntmps32
  go_wp2_with fail
  refine hpf.mono ?_
  clear hpf
  rintro e w1 ⟨rfl,hm⟩
  have HM:=hId hm
  clear hm
  go_wp2_with fail
  go_ret2
  exact RTxt.fault HQ.out HM.out
 have hQ:pathN s=match normL s.data.toList with
   | none=>(9,[])
   | some t=>(0,slashed (dotsF (pieces ⟨(t.drop 1).toArray⟩ slB) [])):=by
  unfold pathN
  rw [if_neg (fun h=>h hp)]
  cases normL s.data.toList <;> rfl
 obtain⟨hl,r,hr⟩:=pathBad_ok hp
 rw [hp]at hpf
 clear hp
 have hnu:=fun W=>msg_normalUnits s W (by omega)
 cases hN:normL s.data.toList with
 | none=>
  rw [hN]at hQ
  have HQ:Hid (pathN s=(9,[])):=hId hQ
  rw [normV_none hN]at hnu
  have HNU:=hId hnu
  clear hQ hN hr hnu hsl
  go_enter Tryz.func32,Tryz.ntmps32
  go_wp2_with fail
  refine hpf.mono ?_
  clear hpf
  rintro e w1 ⟨rfl,hm⟩
  go_wp2_with fail
  refine(HNU.out w1).mono ?_
  clear HNU
  rintro e w2 ⟨rfl,hm2⟩
  have HM:=hId (hm.trans hm2)
  clear hm hm2
  go_wp2_with fail
  go_ret2
  exact RTxt.fault HQ.out HM.out
 | some t=>
  have htl:=normL_length hN
  obtain⟨t',rfl⟩:=normL_head hr hN
  rw [hN]at hQ
  simp only [List.drop_succ_cons,List.drop_zero]at hQ
  rw [normV_some hN]at hnu
  have hext:=extract_tail t'
  have hU:(⟨t'.toArray⟩:ByteArray).size≤3000:=by
   show t'.toArray.size≤3000
   simp only [List.length_cons]at htl
   simp only [List.size_toArray]
   omega
  have hZs:(⟨(47::t').toArray⟩:ByteArray).size=t'.length+1:=by
   show(List.toArray (47::t')).size=_
   simp
  have hZ1:1≤(⟨(47::t').toArray⟩:ByteArray).size:=by omega
  clear hZs
  generalize (⟨(47::t').toArray⟩:ByteArray)=Z at *
  generalize (⟨t'.toArray⟩:ByteArray)=U at *
  have HNU:=hId hnu
  have HX:=hId hx
  have HQ:=hId hQ
  have hZi:(1:Int)≤(Z.size:Int):=by omega
  have hne:=pieces_ne (t:=U) (sep:=slB) (Nat.le_refl _)
  have hpc:=pieces_count hU
  have hpl:=fun x (hx:x∈pieces U slB)=>Nat.le_trans (pieces_le hx) hU
  have hsp:=fun W (h:New w W)=>split_any U 47 W (by omega) (HX.out.new h)
  have HSP:=hId hsp
  clear hQ hN hr hnu hx hsp htl
  go_enter Tryz.func32,Tryz.ntmps32
  go_wp2_with fail
  refine hpf.mono ?_
  clear hpf
  rintro e w1 ⟨rfl,hm⟩
  go_wp2_with fail
  refine(HNU.out w1).mono ?_
  clear HNU
  rintro e w2 ⟨rfl,hm2⟩
  have hm02:=hm.trans hm2
  have hsp:=HSP.out w2 hm02
  clear hm hm2 HSP
  go_wp2_with fail
  refine hsp.mono ?_
  clear hsp
  rintro e w3 ⟨rfl,rfl⟩
  have hmL:New w2 (w2.alloc (.cells (strCs (pieces U slB)) 9)):=(Mod.refl _ _).alloc _
  have hL:=Blk.new w2 9 (strCs (pieces U slB))
  have HLW:Hid (w.heap.size≤w2.heap.size):=hId hm02.size
  have hz3:w2.heap.size<(w2.alloc (.cells (strCs (pieces U slB)) 9)).heap.size:=by simp
  have HM:=hId (hm02.trans hmL)
  have HL:=hId hL
  have HPL:=hId hpl
  have HNE:=hId hne
  clear hmL hL hm02 hext hpl hne
  generalize pieces U slB=segs at *
  generalize w2.alloc (.cells (strCs segs) 9)=w4 at *
  generalize w2.heap.size=L at *
  go_wp2_with fail
  go_loopw [6,27] (fun o i wr=>∃(k n c:Nat) (A:Option Addr) (st:List ByteArray),k≤segs.length∧i= .int .i64 k∧o= .slice A n c∧Hid (DotsTo segs k st)∧n≤k∧Hid (Own wr (L+1) 9 1 sEnc A n c st)∧Hid (Blk wr L 9 (strCs segs))∧Hid (New w wr)) (fun _ i _=>segs.length -(intOf i).toNat)
  case atStart=>exact⟨0,0,0,none,[],Nat.zero_le _,rfl,rfl,hId ⟨rfl,Nat.le_refl _,by simp⟩,Nat.le_refl _,hId Own.nil,HL,HM⟩
  case round=>
   clear HM HL
   rename World=>wr
   obtain⟨k,n,c,A,st,hk,rfl,rfl,HD,hnk,HO,HL,HM⟩:=hrel
   have HOF:Hid (∀ g',blkOf A=some g'→L+1≤g'):=hId (fun g' e=>HO.out.farS g' e)
   have hLr:=HL.out.lt
   by_cases hlt:k<segs.length
   ·have hce:=strs_at HL.out k hlt
    rw [strCs_at hlt]at hce
    have hat:=dotsF_at hlt st
    rw [← HD.out.1]at hat
    have hxz:=HPL.out _ (List.getElem_mem hlt)
    have hb1:(0:Int)≤k:=by omega
    have hb2:(k:Int)<segs.length:=by omega
    generalize segs[k]=x at *
    have e1:=const_eq x [46]
    have e2:=const_eq x [46,46]
    by_cases hx1:x=dot1
    ·rw [if_pos hx1]at hat
     rw [decide_eq_true hx1]at e1
     by_cases hla:k+1=segs.length
     ·have hla':((k:Int) == (segs.length:Int) -1)=true:=by simp;omega
      rw [if_pos (by simpa using hla)]at hat
      have HD1:Hid (DotsTo segs (k+1) (st++ [emptyB])):=hId ⟨hat,by have:=HD.out.2.1;simp;omega,fun y hy=>by
       rcases List.mem_append.1 hy with h | h
       ·exact HD.out.2.2 y h
       ·simp at h;subst h;decide⟩
      clear hat hx1 e2 hla
      have hBq:L+1≤(wr.alloc (.cells #[.string (⟨#[]⟩:ByteArray)] 9)).heap.size:=by simp;omega
      have HOA:=HO.out.alloc (.cells #[.string (⟨#[]⟩:ByteArray)] 9)
      have hBn:=Blk.new wr 9 #[.string (⟨#[]⟩:ByteArray)]
      go_wp2_with (at_builtin;refine wpList_push rfl _ _ _ rfl 16 Tryz.underlying26 einfo_str rfl HOA (⟨#[]⟩:ByteArray) wr.heap.size rfl hBn (fun j hj=>sEnc_one _ j hj) (by omega) (by omega) hBq ?_;intro g8 cap8 w8 own8 hm8 hat8 hlt8)
      have HO8:=hId own8
      have HL8:=hId ((HL.out.new2 ((Mod.refl _ _).alloc (.cells #[.string (⟨#[]⟩:ByteArray)] 9))).mod hm8 (fun e=>by have:=HOF.out L e;omega))
      have HM8:Hid (New w w8):=hId ((HM.out.alloc (.cells #[.string (⟨#[]⟩:ByteArray)] 9)).step hm8 (fun i hi e=>by have:=HOF.out i e;have:=HLW.out;omega))
      clear own8 hm8
      go_roundw
      case rel=>exact⟨k+1,_,cap8,some ⟨g8,0,none⟩,_,by omega,by go_num,rfl,HD1,by omega,HO8,HL8,HM8⟩
      case measure=>simp [intOf];omega
     ·have hla':((k:Int) == (segs.length:Int) -1)=false:=by simp;omega
      rw [if_neg (by simpa using hla)]at hat
      have HD1:Hid (DotsTo segs (k+1) st):=hId ⟨hat,by have:=HD.out.2.1;omega,HD.out.2.2⟩
      clear hat hx1 e2 hla
      go_wp2_with fail
      go_roundw
      case rel=>exact⟨k+1,n,c,A,st,by omega,by go_num,rfl,HD1,by omega,HO,HL,HM⟩
      case measure=>simp [intOf];omega
    ·rw [if_neg hx1]at hat
     rw [decide_eq_false hx1]at e1
     by_cases hx2:x=dot2
     ·rw [if_pos hx2]at hat
      rw [decide_eq_true hx2]at e2
      clear hx1 hx2
      rcases HO.out.blk with⟨rfl,rfl,rfl⟩ |⟨g,rfl,hBg,htb⟩
      ·have hst0:st= []:=List.eq_nil_of_length_eq_zero HO.out.1
       subst hst0
       have hm0:max (-1:Int) 0=0:=by decide
       by_cases hla:k+1=segs.length
       ·have hla':((k:Int) == (segs.length:Int) -1)=true:=by simp;omega
        rw [if_pos (by simpa using hla)]at hat
        have HD1:Hid (DotsTo segs (k+1) ([]++ [emptyB])):=hId ⟨hat,by simp,fun y hy=>by simp at hy;subst hy;decide⟩
        clear hla hat
        have hBq:L+1≤(wr.alloc (.cells #[.string (⟨#[]⟩:ByteArray)] 9)).heap.size:=by simp;omega
        have HOA:=HO.out.alloc (.cells #[.string (⟨#[]⟩:ByteArray)] 9)
        have hBn:=Blk.new wr 9 #[.string (⟨#[]⟩:ByteArray)]
        go_wp2_with (at_builtin;refine wpList_push rfl _ _ _ rfl 16 Tryz.underlying26 einfo_str rfl HOA (⟨#[]⟩:ByteArray) wr.heap.size rfl hBn (fun j hj=>sEnc_one _ j hj) (by omega) (by omega) hBq ?_;intro g8 cap8 w8 own8 hm8 hat8 hlt8)
        have HO8:=hId own8
        have HL8:=hId ((HL.out.new2 ((Mod.refl _ _).alloc (.cells #[.string (⟨#[]⟩:ByteArray)] 9))).mod hm8 (fun e=>by have:=HOF.out L e;omega))
        have HM8:Hid (New w w8):=hId ((HM.out.alloc (.cells #[.string (⟨#[]⟩:ByteArray)] 9)).step hm8 (fun i hi e=>by have:=HOF.out i e;have:=HLW.out;omega))
        clear own8 hm8
        go_roundw
        case rel=>exact⟨k+1,_,cap8,some ⟨g8,0,none⟩,_,by omega,by go_num,rfl,HD1,by omega,HO8,HL8,HM8⟩
        case measure=>simp [intOf];omega
       ·have hla':((k:Int) == (segs.length:Int) -1)=false:=by simp;omega
        rw [if_neg (by simpa using hla)]at hat
        have HD1:Hid (DotsTo segs (k+1) []):=hId ⟨hat,by simp,by simp⟩
        clear hla hat
        go_wp2_with fail
        go_roundw
        case rel=>exact⟨k+1,0,0,none,[],by omega,by go_num,rfl,HD1,by omega,HO,HL,HM⟩
        case measure=>simp [intOf];omega
      ·have hmx:max ((n:Int) -1) 0=((n -1:Nat):Int):=by omega
       obtain⟨n1,hn1⟩:∃ n1:Nat,n1=n -1:=⟨_,rfl⟩
       rw [← hn1]at hmx
       have hn1l:n1≤n:=by omega
       have hc1:n1≤c:=by have:=HO.out.row;obtain⟨cur,_,_,h5,_⟩:=this;omega
       have htk:st.take n1=st.dropLast:=by rw [List.dropLast_eq_take,HO.out.1,hn1]
       have HO1:=hId (HO.out.cut hn1l)
       rw [htk]at HO1
       have HSZ:Hid (∀ y∈st.dropLast,y.size≤3000):=hId (fun y hy=>HD.out.2.2 y (List.dropLast_subset st hy))
       have HLN:Hid (st.dropLast.length≤k):=hId (by have:=HD.out.2.1;rw [List.length_dropLast];omega)
       clear hn1 htk HO
       have HO:=HO1
       clear HO1
       by_cases hla:k+1=segs.length
       ·have hla':((k:Int) == (segs.length:Int) -1)=true:=by simp;omega
        rw [if_pos (by simpa using hla)]at hat
        have HD1:Hid (DotsTo segs (k+1) (st.dropLast++ [emptyB])):=hId ⟨hat,by have:=HLN.out;rw [List.length_append,List.length_singleton];omega,fun y hy=>by
         rcases List.mem_append.1 hy with h | h
         ·exact HSZ.out y h
         ·simp at h;subst h;decide⟩
        clear hla hat
        have hBq:L+1≤(wr.alloc (.cells #[.string (⟨#[]⟩:ByteArray)] 9)).heap.size:=by simp;omega
        have HOA:=HO.out.alloc (.cells #[.string (⟨#[]⟩:ByteArray)] 9)
        have hBn:=Blk.new wr 9 #[.string (⟨#[]⟩:ByteArray)]
        go_wp2_with (at_builtin;refine wpList_push rfl _ _ _ rfl 16 Tryz.underlying26 einfo_str rfl HOA (⟨#[]⟩:ByteArray) wr.heap.size rfl hBn (fun j hj=>sEnc_one _ j hj) (by omega) (by omega) hBq ?_;intro g8 cap8 w8 own8 hm8 hat8 hlt8)
        have HO8:=hId own8
        have HL8:=hId ((HL.out.new2 ((Mod.refl _ _).alloc (.cells #[.string (⟨#[]⟩:ByteArray)] 9))).mod hm8 (fun e=>by have:=HOF.out L e;omega))
        have HM8:Hid (New w w8):=hId ((HM.out.alloc (.cells #[.string (⟨#[]⟩:ByteArray)] 9)).step hm8 (fun i hi e=>by have:=HOF.out i e;have:=HLW.out;omega))
        clear own8 hm8
        go_roundw
        case rel=>exact⟨k+1,_,cap8,some ⟨g8,0,none⟩,_,by omega,by go_num,rfl,HD1,by omega,HO8,HL8,HM8⟩
        case measure=>simp [intOf];omega
       ·have hla':((k:Int) == (segs.length:Int) -1)=false:=by simp;omega
        rw [if_neg (by simpa using hla)]at hat
        have HD1:Hid (DotsTo segs (k+1) st.dropLast):=hId ⟨hat,by have:=HLN.out;omega,HSZ.out⟩
        clear hla hat
        go_wp2_with fail
        go_roundw
        case rel=>exact⟨k+1,n1,c,some ⟨g,0,none⟩,st.dropLast,by omega,by go_num,rfl,HD1,by omega,HO,HL,HM⟩
        case measure=>simp [intOf];omega
     ·rw [if_neg hx2]at hat
      rw [decide_eq_false hx2]at e2
      have HD1:Hid (DotsTo segs (k+1) (st++ [x])):=hId ⟨hat,by have:=HD.out.2.1;simp;omega,fun y hy=>by
       rcases List.mem_append.1 hy with h | h
       ·exact HD.out.2.2 y h
       ·simp at h;subst h;exact hxz⟩
      clear hat hx1 hx2
      have hBq:L+1≤(wr.alloc (.cells #[.string x] 9)).heap.size:=by simp;omega
      have HOA:=HO.out.alloc (.cells #[.string x] 9)
      have hBn:=Blk.new wr 9 #[.string x]
      go_wp2_with (at_builtin;refine wpList_push rfl _ _ _ rfl 16 Tryz.underlying26 einfo_str rfl HOA x wr.heap.size rfl hBn (fun j hj=>sEnc_one _ j hj) (by omega) (by omega) hBq ?_;intro g8 cap8 w8 own8 hm8 hat8 hlt8)
      have HO8:=hId own8
      have HL8:=hId ((HL.out.new2 ((Mod.refl _ _).alloc (.cells #[.string x] 9))).mod hm8 (fun e=>by have:=HOF.out L e;omega))
      have HM8:Hid (New w w8):=hId ((HM.out.alloc (.cells #[.string x] 9)).step hm8 (fun i hi e=>by have:=HOF.out i e;have:=HLW.out;omega))
      clear own8 hm8
      go_roundw
      case rel=>exact⟨k+1,_,cap8,some ⟨g8,0,none⟩,_,by omega,by go_num,rfl,HD1,by omega,HO8,HL8,HM8⟩
      case measure=>simp [intOf];omega
   ·obtain rfl:k=segs.length:=by omega
    have HQ1:Hid (pathN s=(0,slashed st)):=hId (by rw [HQ.out,HD.out.1,List.drop_length];rfl)
    have hn3:n≤3001:=by omega
    by_cases h0:n=0
    ·subst h0
     have hst0:st= []:=List.eq_nil_of_length_eq_zero HO.out.1
     subst hst0
     have hj0:=Tryz.strings_Join_none A c ⟨#[47]⟩ wr
     go_wp2_with (first |(refine hj0.mono ?_;clear hj0;rintro e w3 ⟨rfl,hw⟩;rw [hw];clear hw))
     go_ret2
     exact⟨by rw [HQ1.out];rfl,HM.out⟩
    ·rcases HO.out.blk with⟨_,h1,_⟩ |⟨g',rfl,hB,htb⟩
     ·exact absurd h1 h0
     ·obtain⟨g2,o2,hA,htb2,hc⟩:=HO.out.sl.2 (by omega)
      injection hA with hA
      injection hA with q1 q2 q3
      subst q1 q2
      have hyl:=HO.out.1
      have hle:(Lib.join (st.map (·.data.toList)) [47]).length≤n * 3001:=by
       have:=join_le [47] 3000 (st.map (·.data.toList)) (fun x hx=>by
        obtain⟨y,hy,rfl⟩:=List.mem_map.1 hx
        exact HD.out.2.2 y hy)
       rw [List.length_map,hyl]at this
       exact this
      have hmul:n * 3001≤3001 * 3001:=Nat.mul_le_mul (by omega) (by omega)
      have hcap:n≤c:=by
       obtain⟨_,_,_,_,h5,_⟩:=HO.out.form (by omega)
       exact h5
      have hjn:=Tryz.strings_Join g' 0 c st ⟨#[47]⟩ wr (fun i x hx=>by
       have hi:i<st.length:=by
        rcases Nat.lt_or_ge i st.length with h | h
        ·exact h
        ·rw [List.getElem?_eq_none h]at hx;cases hx
       rw [List.getElem?_eq_getElem hi]at hx
       injection hx with hx
       subst hx
       have:=hc i hi 0 (by decide)
       rw [show 0+i * 1+0=0+i by omega]at this
       exact this) htb.lt (by omega) (by omega) (Nat.le_trans hle (by omega))
      rw [hyl,show(⟨#[47]⟩:ByteArray).data.toList= [47] from rfl]at hjn
      have hJz:(⟨(Lib.join (st.map (·.data.toList)) [47]).toArray⟩:ByteArray).size≤10000000:=by show(List.toArray _).size≤_;rw [List.size_toArray];omega
      have hJl:(⟨(Lib.join (st.map (·.data.toList)) [47]).toArray⟩:ByteArray).data.toList=Lib.join (st.map (·.data.toList)) [47]:=rfl
      have HF:Hid ((⟨#[47]⟩:ByteArray)++⟨(Lib.join (st.map (·.data.toList)) [47]).toArray⟩=⟨(slashed st).toArray⟩):=hId (by
       rw [← mkList ((⟨#[47]⟩:ByteArray)++⟨(Lib.join (st.map (·.data.toList)) [47]).toArray⟩),cat_list]
       rfl)
      clear hJl hle hmul
      generalize (⟨(Lib.join (st.map (·.data.toList)) [47]).toArray⟩:ByteArray)=J at *
      have e1:(⟨#[47]⟩:ByteArray).size=1:=rfl
      have hadd:¬ 9223372036854775807<(⟨#[47]⟩:ByteArray).size+J.size:=by omega
      have HJN:=hId hjn
      clear hc htb htb2 hjn hyl
      go_wp2_with fail
      refine HJN.out.mono ?_
      clear HJN
      rintro e w3 ⟨rfl,hm3⟩
      have HM3:=hId (HM.out.trans (Mod.of_below hm3))
      clear hm3 HM
      go_wp2_with fail
      go_ret2
      exact⟨by rw [HQ1.out,←HF.out];rfl,HM3.out⟩
end Go.Proofs.YtnlloaimplgjnaaGreatDoor
