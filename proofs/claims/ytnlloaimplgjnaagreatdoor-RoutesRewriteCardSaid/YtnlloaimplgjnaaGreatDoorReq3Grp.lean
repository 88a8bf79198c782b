/- Several texts in one. (1) Makers of requests. Conditions: as for the stream. (2) What is wrong with a request: the program's check and the reference's. Conditions: a request of modest size; the library's variable on searching is an int; strconv's table for the reference. -/
import Derived.Test.YtnlloaimplgjnaaGreatDoorDecPGrp
import Derived.Test.YtnlloaimplgjnaaGreatDoorHdrFGrp
import Derived.Test.YtnlloaimplgjnaaGreatDoorHeldGrp
namespace Go.Proofs.YtnlloaimplgjnaaGreatDoor
open Go.RowKit
set_option linter.unusedVariables false
set_option linter.unusedSimpArgs false
structure ReqD where
 at_:Int
 method:ByteArray
 host:ByteArray
 path:ByteArray
 query:ByteArray
 from_:ByteArray
 ha:Option Addr
 hn:Nat
 hc:Nat
 body:ByteArray
def ReqD.val (r:ReqD):Value:=.agg #[.int .i64 r.at_,.string r.method,.string r.host,.string r.path,.string r.query,.string r.from_,.slice r.ha r.hn r.hc,.string r.body]
structure ReqD.Fit (r:ReqD) (ls:List PairD):Prop where
 i:I64 r.at_
 z1:r.method.size≤110
 z2:r.host.size≤70
 z3:r.path.size≤1040
 z4:r.query.size≤210∧QFew r.query
 z5:r.from_.size≤2001
 z6:r.body.size≤20001
 z7:r.hn≤60
 h:HSmall ls
/-- a request handed back, its headers in a row of its own -/
def RReq (b:Nat) (w:World) (k:Nat) (e:Ending) (w':World):Prop:=∃(r:ReqD) (ls:List PairD),e= .returned r.val∧HOwn w' w.heap.size r.ha r.hn r.hc ls∧r.Fit ls∧SStep b w w' k
theorem Own.below {α:Type} {w:World} {B:Nat} {t:TypeId} {sz:Nat} {enc:α→Nat→Value} {A:Option Addr} {n c:Nat} {xs:List α} (h:Own w B t sz enc A n c xs) (g:Nat) (e:blkOf A=some g):g<w.heap.size:=by
 rcases h.blk with⟨rfl,_,_⟩ |⟨g',rfl,hB,ht⟩
 ·cases e
 ·injection e with e;subst e;exact ht.lt
theorem SStep.mod0 {S:Nat→Prop} {b k:Nat} {w w' w'':World} (h:SStep b w w' k) (hm:Mod S w' w'') (hS:∀ i,S i→w.heap.size≤i):SStep b w w'' k:=
 ⟨h.lt,h.only.step hm (fun i hi e=>by have:=hS i e;omega),h.inv.mod hm (fun i hi e=>by have:=hS i e;have:=h.lt;omega)⟩
abbrev zReq:Array Value:=#[.int .i64 0,.string ⟨#[]⟩,.string ⟨#[]⟩,.string ⟨#[]⟩,.string ⟨#[]⟩,.string ⟨#[]⟩,.slice none 0 0,.string ⟨#[]⟩]
set_option maxRecDepth 100000 in
set_option maxHeartbeats 2000000 in
theorem rightRequest_any (b k:Nat) (w:World) (hs:SInv b w k) (hk:k<4611686018425000000):
  Calls Tryz.prog 59 #[.pointer (some ⟨b,0,none⟩)] w (RReq b w (k+200)):=by
 have hbl:=hs.lt
 have T:=(SStep.refl hs).alloc (.cells #[.int .i64 0,.string ⟨#[]⟩,.string ⟨#[]⟩,.string ⟨#[]⟩,.string ⟨#[]⟩,.string ⟨#[]⟩,.slice none 0 0,.string ⟨#[]⟩] 33)
 have hR:=Blk.new w 33 #[.int .i64 0,.string ⟨#[]⟩,.string ⟨#[]⟩,.string ⟨#[]⟩,.string ⟨#[]⟩,.string ⟨#[]⟩,.slice none 0 0,.string ⟨#[]⟩]
 go_enter Tryz.func59,Tryz.ntmps59
 go_wp2_with fail
 have hz0:(w.alloc (.cells #[.int .i64 0,.string ⟨#[]⟩,.string ⟨#[]⟩,.string ⟨#[]⟩,.string ⟨#[]⟩,.string ⟨#[]⟩,.slice none 0 0,.string ⟨#[]⟩] 33)).heap.size=w.heap.size+1:=by simp
 have R:=hId hR
 clear hR hs
 generalize w.alloc (.cells #[.int .i64 0,.string ⟨#[]⟩,.string ⟨#[]⟩,.string ⟨#[]⟩,.string ⟨#[]⟩,.string ⟨#[]⟩,.slice none 0 0,.string ⟨#[]⟩] 33)=w0 at *
 generalize hrb:w.heap.size=rb at *
 refine(pick_any [0,5,1000,60000] b _ (rb+1) 4 _ (T.alloc _).inv (by omega) (Blk.new' _ _ hz0) rfl (by omega) (by omega)).mono ?_
 rintro e w1 ⟨at_,rfl,hat,hx⟩
 have hat0:0≤at_∧at_≤60000:=by simp at hat;omega
 have hz1:rb<w0.heap.size:=by omega
 clear hat hz0
 have R':=hId (R.out.mod hx.only.pre.1 (by omega))
 have T':=(T.alloc _).trans hx
 have z':=hx.only.pre.2.1
 clear R T hx
 have R:=R'
 have T:=T'
 clear R' T'
 go_wp2_with fail
 refine(some_any [⟨#[71,69,84]⟩,⟨#[71,69,84]⟩,⟨#[71,69,84]⟩,⟨#[72,69,65,68]⟩,⟨#[80,79,83,84]⟩,⟨#[103,101,116]⟩] b _ w1.heap.size 6 _ (T.alloc _).inv (by omega) (Blk.new _ _ _) rfl (by omega) (by omega)).mono ?_
 rintro e w2 ⟨me,rfl,ht,hx⟩
 have hmez:me.size≤10:=by
  simp only [List.mem_cons,List.not_mem_nil,or_false]at ht
  rcases ht with rfl | rfl | rfl | rfl | rfl | rfl <;> decide
 clear ht
 have R':=hId (R.out.mod hx.only.pre.1 (by omega))
 have T':=(T.alloc _).trans hx
 have z':=hx.only.pre.2.1
 clear R T hx
 have R:=R'
 have T:=T'
 clear R' T'
 go_wp2_with fail
 refine(rightHost_any b _ w2 T.inv (by omega)).mono ?_
 rintro e w3 ⟨ho,rfl,hhoz,hx⟩
 have R':=hId (R.out.mod hx.only (by omega))
 have T':=T.trans hx
 have z':=hx.only.size
 clear R T hx
 have R:=R'
 have T:=T'
 clear R' T'
 go_wp2_with fail
 refine(some_any [⟨#[47]⟩,⟨#[47,97]⟩,⟨#[47,97]⟩,⟨#[47,97,47,98]⟩,⟨#[47,97,47,46,46,47,98]⟩,⟨#[47,37,52,49]⟩] b _ w3.heap.size 6 _ (T.alloc _).inv (by omega) (Blk.new _ _ _) rfl (by omega) (by omega)).mono ?_
 rintro e w4 ⟨pa,rfl,ht,hx⟩
 have hpaz:pa.size≤10:=by
  simp only [List.mem_cons,List.not_mem_nil,or_false]at ht
  rcases ht with rfl | rfl | rfl | rfl | rfl | rfl <;> decide
 clear ht
 have R':=hId (R.out.mod hx.only.pre.1 (by omega))
 have T':=(T.alloc _).trans hx
 have z':=hx.only.pre.2.1
 clear R T hx
 have R:=R'
 have T:=T'
 clear R' T'
 go_wp2_with fail
 refine(some_any [⟨#[]⟩,⟨#[]⟩,⟨#[120,61,49]⟩,⟨#[98,61,50,38,97,61,49]⟩] b _ w4.heap.size 4 _ (T.alloc _).inv (by omega) (Blk.new _ _ _) rfl (by omega) (by omega)).mono ?_
 rintro e w5 ⟨qu,rfl,ht,hx⟩
 have hquz:qu.size≤210∧QFew qu:=by
  simp only [List.mem_cons,List.not_mem_nil,or_false]at ht
  rcases ht with rfl | rfl | rfl | rfl <;> exact⟨by decide,few_small (by decide)⟩
 clear ht
 have R':=hId (R.out.mod hx.only.pre.1 (by omega))
 have T':=(T.alloc _).trans hx
 have z':=hx.only.pre.2.1
 clear R T hx
 have R:=R'
 have T:=T'
 clear R' T'
 go_wp2_with fail
 refine(some_any [⟨#[49,48,46,48,46,48,46,49]⟩,⟨#[49,48,46,48,46,48,46,49]⟩,⟨#[57,46,57,46,57,46,57]⟩,⟨#[]⟩] b _ w5.heap.size 4 _ (T.alloc _).inv (by omega) (Blk.new _ _ _) rfl (by omega) (by omega)).mono ?_
 rintro e w6 ⟨fr,rfl,ht,hx⟩
 have hfrz:fr.size≤10:=by
  simp only [List.mem_cons,List.not_mem_nil,or_false]at ht
  rcases ht with rfl | rfl | rfl | rfl <;> decide
 clear ht
 have R':=hId (R.out.mod hx.only.pre.1 (by omega))
 have T':=(T.alloc _).trans hx
 have z':=hx.only.pre.2.1
 clear R T hx
 have R:=R'
 have T:=T'
 clear R' T'
 go_wp2_with fail
 have hzz:rb<w6.heap.size:=by omega
 refine(rightHeaders_any b _ 4 w6 T.inv (by omega) (by omega)).mono ?_
 rintro e w7 ⟨A,n,c,ls,rfl,own,hn,hsm,hx⟩
 have R':=hId (R.out.mod hx.only (by omega))
 have T':=T.trans hx
 have z':=hx.only.size
 clear R T hx
 have R:=R'
 have T:=T'
 clear R' T'
 have HQ:=hId hsm
 have hmP:New w7 (w7.alloc (.cells #[.int .i64 at_,.string me,.string ho,.string pa,.string qu,.string fr,.slice A n c,.string ⟨#[]⟩] 33)):=(Mod.refl _ _).alloc _
 have hP:=Blk.new w7 33 #[.int .i64 at_,.string me,.string ho,.string pa,.string qu,.string fr,.slice A n c,.string ⟨#[]⟩]
 have HNE:Hid (∀ g,blkOf A=some g→g≠w7.heap.size∧g≠rb):=hId (fun g e=>by
  have h1:=own.below g e
  have h2:=own.farP g e
  omega)
 have P:=hId hP
 have R':=hId (R.out.mod hmP (fun e=>e))
 have HO:=hId (own.new hmP)
 have T':=T.new hmP
 have hw67:w6.heap.size≤w7.heap.size:=z'
 have hzA:=hmP.size
 clear R T own hsm hP hmP
 have R:=R'
 have T:=T'
 clear R' T'
 go_upto_region 2 with fail
 generalize w7.alloc (.cells #[.int .i64 at_,.string me,.string ho,.string pa,.string qu,.string fr,.slice A n c,.string ⟨#[]⟩] 33)=w8 at *
 have hpr:rb≠w7.heap.size:=by omega
 have hpb:b≠w7.heap.size:=by omega
 have hpg:rb<w7.heap.size:=by omega
 generalize w7.heap.size=pb at *
 go_wp2_with fail
 refine(flip_any b _ 4 w8 T.inv (by omega) (by omega) (by omega)).mono ?_
 rintro e w9 ⟨q,rfl,hx⟩
 have P':=hId (P.out.mod hx.only (by omega))
 have HO':=hId (HO.out.mod hx.only (fun g e e2=>by have:=HO.out.farP g e;omega))
 have R':=hId (R.out.mod hx.only (by omega))
 have T':=T.trans hx
 have z':=hx.only.size
 clear R T hx
 have R:=R'
 have T:=T'
 clear R' T'
 clear P HO
 have P:=P'
 have HO:=HO'
 clear P' HO'
 cases q
 ·have hcP:=P.out.cell
  have hcR:=R.out.cell
  have hfR:=R.out.frozen
  have plt:=P.out.lt
  have rlt:=R.out.lt
  have hmF:=fun(v0 v1 v2 v3 v4 v5 v6 v7:Value)=>(Mod.set8 rb w9 v0 v1 v2 v3 v4 v5 v6 v7)
  have HMF:=hId hmF
  have HFIN:Hid (∀ W',Mod (fun k=>k=rb) w9 W'→HOwn W' rb A n c ls∧SStep b w W' (k+200)):=hId (fun W' hm=>⟨(HO.out.mod hm (fun g e=>(HNE.out g e).2)).less (by omega),(T.mod0 hm (by intro i e;omega)).more (by omega)⟩)
  clear hmF P R HO T
  go_wp2_with fail
  refine bodyPost_ret (v:=ReqD.val ⟨at_,me,ho,pa,qu,fr,A,n,c,⟨#[]⟩⟩) (by simp [results,Tryz.results59,go_sem,hcP,hcR,hfR,plt,rlt,hpr,ReqD.val]) rfl ?_
  refine⟨⟨at_,me,ho,pa,qu,fr,A,n,c,⟨#[]⟩⟩,ls,rfl,(by rw [hrb];exact(HFIN.out _ (HMF.out _ _ _ _ _ _ _ _)).1),?_,(HFIN.out _ (HMF.out _ _ _ _ _ _ _ _)).2⟩
  exact⟨by unfold I64;(try dsimp only);omega,by(try dsimp only);first | omega | decide,by(try dsimp only);first | omega | decide,by(try dsimp only);first | omega | decide,hquz,by(try dsimp only);first | omega | decide,by(try dsimp only);first | omega | decide,by(try dsimp only);omega,HQ.out⟩
 ·have hr:=Tryz.strings_Repeat ⟨#[97,98]⟩ 40 w9 (by decide) (by decide)
  have hz:(⟨(Lib.repeatL (⟨#[97,98]⟩:ByteArray).data.toList 40).toArray⟩:ByteArray).size≤80:=by
   show(Lib.repeatL _ _).toArray.size≤_
   rw [List.size_toArray,Lib.repeatL_length]
   decide
  generalize (⟨(Lib.repeatL (⟨#[97,98]⟩:ByteArray).data.toList 40).toArray⟩:ByteArray)=U at *
  go_wp2_with fail
  refine hr.mono ?_
  clear hr
  rintro e w10 ⟨rfl,hmB⟩
  have hmB:New w9 w10:=Mod.of_below hmB
  have P':=hId (P.out.mod hmB (fun e=>e))
  have HO':=hId (HO.out.new hmB)
  have R':=hId (R.out.mod hmB (fun e=>e))
  have T':=T.new hmB
  clear P HO R T hmB
  have P:=P'
  have HO:=HO'
  have R:=R'
  have T:=T'
  clear P' HO' R' T'
  go_wp2_with fail
  refine(some_any [⟨#[104,101,108,108,111]⟩,⟨#[120]⟩,U] b _ w10.heap.size 3 _ (T.alloc _).inv (by omega) (Blk.new _ _ _) rfl (by omega) (by omega)).mono ?_
  rintro e w11 ⟨bo,rfl,ht,hx⟩
  have hboz:bo.size≤80:=by
   simp only [List.mem_cons,List.not_mem_nil,or_false]at ht
   rcases ht with rfl | rfl | rfl
   all_goals first | exact hz | decide
  have P':=hId (P.out.mod hx.only.pre.1 (by omega))
  have HO':=hId (HO.out.mod hx.only.pre.1 (fun g e e2=>by have:=HO.out.farP g e;omega))
  clear ht hz
  have R':=hId (R.out.mod hx.only.pre.1 (by omega))
  have T':=(T.alloc _).trans hx
  have z':=hx.only.pre.2.1
  clear R T hx
  have R:=R'
  have T:=T'
  clear R' T'
  clear P HO
  have hP5:=P'.out.set 7 (.string bo)
  simp only [lzt,lsz,lss]at hP5
  have hm5:Mod (fun k=>k=pb) w11 (w11.setCell ⟨pb,7,none⟩ (.string bo)):=Mod.setCell (S:=fun k=>k=pb) (p:=⟨pb,7,none⟩) (Mod.refl _ _) (.inl rfl) _
  have R5:=hId (R.out.mod hm5 hpr)
  have HO5:=hId (HO'.out.mod hm5 (fun g e=>(HNE.out g e).1))
  have T5:=T.mod0 hm5 (by intro i e;omega)
  have P5:=hId hP5
  have q7:=P'.out.cell 7
  have qf:=P'.out.frozen 7
  have ql:=P'.out.lt
  simp only [lqt,lqz,lqs]at q7
  clear hP5 hm5 P' HO' R T
  go_upto_region 4 with fail
  clear q7 qf ql
  generalize w11.setCell ⟨pb,7,none⟩ (.string bo)=w12 at *
  have P:=P5
  have R:=R5
  have HO:=HO5
  have T:=T5
  clear P5 R5 HO5 T5
  have hcP:=P.out.cell
  have hcR:=R.out.cell
  have hfR:=R.out.frozen
  have plt:=P.out.lt
  have rlt:=R.out.lt
  have hmF:=fun(v0 v1 v2 v3 v4 v5 v6 v7:Value)=>(Mod.set8 rb w12 v0 v1 v2 v3 v4 v5 v6 v7)
  have HMF:=hId hmF
  have HFIN:Hid (∀ W',Mod (fun k=>k=rb) w12 W'→HOwn W' rb A n c ls∧SStep b w W' (k+200)):=hId (fun W' hm=>⟨(HO.out.mod hm (fun g e=>(HNE.out g e).2)).less (by omega),(T.mod0 hm (by intro i e;omega)).more (by omega)⟩)
  clear hmF P R HO T
  go_wp2_with fail
  refine bodyPost_ret (v:=ReqD.val ⟨at_,me,ho,pa,qu,fr,A,n,c,bo⟩) (by simp [results,Tryz.results59,go_sem,hcP,hcR,hfR,plt,rlt,hpr,ReqD.val]) rfl ?_
  refine⟨⟨at_,me,ho,pa,qu,fr,A,n,c,bo⟩,ls,rfl,(by rw [hrb];exact(HFIN.out _ (HMF.out _ _ _ _ _ _ _ _)).1),?_,(HFIN.out _ (HMF.out _ _ _ _ _ _ _ _)).2⟩
  exact⟨by unfold I64;(try dsimp only);omega,by(try dsimp only);first | omega | decide,by(try dsimp only);first | omega | decide,by(try dsimp only);first | omega | decide,hquz,by(try dsimp only);first | omega | decide,by(try dsimp only);first | omega | decide,by(try dsimp only);omega,HQ.out⟩
/-- a request's data, with its headers -/
def ReqD.data (r:ReqD) (ls:List PairD):ReqL:=⟨r.at_,r.method,r.host,r.path,r.query,r.from_,ls,r.body⟩
theorem kit_moment (n:Int) (w:World):
  Calls Tryz.prog 200 #[.int .i64 n] w fun e w'=>e= .returned (.bool (momentOk n))∧w=w':=by
 by_cases h:0≤n
 ·go_enter Tryz.func200,Tryz.ntmps200
  go_wp2
  go_ret
  exact⟨ret_bool (by simp [momentOk,h]),rfl⟩
 ·have h':decide (0≤n)=false:=by simpa using h
  go_enter Tryz.func200,Tryz.ntmps200
  go_wp2
  go_ret
  exact⟨ret_bool (by simp [momentOk,h']),rfl⟩
theorem ref_moment (n:Int) (w:World):
  Calls Tryz.prog 106 #[.int .i64 n] w fun e w'=>e= .returned (.bool (momentOk n))∧w=w':=by
 go_enter Tryz.func106,Tryz.ntmps106
 go_wp2_with fail
 refine(ref2_in _ _ _ _).mono ?_
 rintro e w1 ⟨rfl,rfl⟩
 go_wp2_with fail
 go_ret
 refine⟨ret_bool ?_,rfl⟩
 rw [Bool.eq_iff_iff]
 simp [momentOk]
 omega
set_option maxRecDepth 100000 in
set_option maxHeartbeats 1000000 in
theorem msg_checkRequest (r:ReqD) (ls:List PairD) (w:World) (h:HSl w r.ha r.hn ls) (hf:r.Fit ls) (hx:MaxLn w):
  Calls Tryz.prog 144 #[r.val] w fun e w'=>e= .returned (.int .i64 (reqF (r.data ls)))∧New w w':=by
 obtain⟨at_,me,ho,pa,qu,fr,A,n,c,bo⟩:=r
 obtain⟨i0,z1,z2,z3,z4,z5,z6,z7,z8⟩:=hf
 simp only at h z1 z2 z3 z4 z5 z6 z7
 have HF:Hid (reqF (ReqD.data ⟨at_,me,ho,pa,qu,fr,A,n,c,bo⟩ ls)=if !momentOk at_ then 1 else if !isTok me then 5 else if !hostForm ho then 3 else if pathBad pa.data.toList≠0 then 3 else if queryBad qu.data.toList≠0 then 3 else if !isFld fr then 3 else if headsF ls≠0 then headsF ls else if 20000<bo.size then 2 else 0):=hId rfl
 have HRET:=hId (fun (w':World) (f:Int) (hq:reqF (ReqD.data ⟨at_,me,ho,pa,qu,fr,A,n,c,bo⟩ ls)=f) (hm:New w w')=>(⟨ret_int hq.symm,hm⟩:Ending.returned (.int .i64 f)= .returned (.int .i64 (reqF (ReqD.data ⟨at_,me,ho,pa,qu,fr,A,n,c,bo⟩ ls)))∧New w w'))
 generalize reqF (ReqD.data ⟨at_,me,ho,pa,qu,fr,A,n,c,bo⟩ ls)=R at *
 simp only [ReqD.val]
 have hb:=Blk.new w 33 #[.int .i64 at_,.string me,.string ho,.string pa,.string qu,.string fr,.slice A n c,.string bo]
 have hm:New w (w.alloc (.cells #[.int .i64 at_,.string me,.string ho,.string pa,.string qu,.string fr,.slice A n c,.string bo] 33)):=(Mod.refl _ _).alloc _
 have HHS:=hId h
 have HHX:=hId hx
 have HZ8:=hId z8
 clear h hx z8 i0
 go_enter Tryz.func144,Tryz.ntmps144
 go_upto_region 1 with(fail)
 have HX:=hId hb
 have HM:=hId hm
 clear hb hm
 generalize w.alloc (.cells #[.int .i64 at_,.string me,.string ho,.string pa,.string qu,.string fr,.slice A n c,.string bo] 33)=w1 at *
 generalize w.heap.size=xb at *
 have e0:=HX.out.cell 0
 have e1:=HX.out.cell 1
 have e2:=HX.out.cell 2
 have e3:=HX.out.cell 3
 have e4:=HX.out.cell 4
 have e5:=HX.out.cell 5
 have e6:=HX.out.cell 6
 have e7:=HX.out.cell 7
 have el:=HX.out.lt
 simp only [lqt,lqz,lqs]at e0 e1 e2 e3 e4 e5 e6 e7
 have q1:=kit_moment at_ w1
 generalize momentOk at_=M at *
 cases M
 ·have HQ:=hId (HF.out.trans rfl)
  go_wp2_with fail
  refine q1.mono ?_
  clear q1
  rintro e w' ⟨rfl,rfl⟩
  go_wp2_with fail
  go_ret
  exact HRET.out _ _ HQ.out HM.out
 go_wp2_with fail
 refine q1.mono ?_
 clear q1
 rintro e w' ⟨rfl,rfl⟩
 have q1:=msg_isToken me w1 (by unfold maxLen;omega)
 generalize isTok me=T at *
 cases T
 ·have HQ:=hId (HF.out.trans rfl)
  go_wp2_with fail
  refine q1.mono ?_
  clear q1
  rintro e w' ⟨rfl,rfl⟩
  go_wp2_with fail
  go_ret
  exact HRET.out _ _ HQ.out HM.out
 go_wp2_with fail
 refine q1.mono ?_
 clear q1
 rintro e w' ⟨rfl,rfl⟩
 have q1:=msg_isHost ho w1 (by omega) (HHX.out.new HM.out)
 generalize hostForm ho=H at *
 cases H
 ·have HQ:=hId (HF.out.trans rfl)
  go_wp2_with fail
  refine q1.mono ?_
  clear q1
  rintro e w2 ⟨rfl,m2⟩
  clear e0 e1 e2 e3 e4 e5 e6 e7 el
  have HX1:=hId (HX.out.new2 m2)
  have HM1:=hId (HM.out.trans m2)
  clear HX HM m2
  have HX:=HX1
  have HM:=HM1
  clear HX1 HM1
  have e0:=HX.out.cell 0
  have e1:=HX.out.cell 1
  have e2:=HX.out.cell 2
  have e3:=HX.out.cell 3
  have e4:=HX.out.cell 4
  have e5:=HX.out.cell 5
  have e6:=HX.out.cell 6
  have e7:=HX.out.cell 7
  have el:=HX.out.lt
  simp only [lqt,lqz,lqs]at e0 e1 e2 e3 e4 e5 e6 e7
  go_wp2_with fail
  go_ret
  exact HRET.out _ _ HQ.out HM.out
 go_wp2_with fail
 refine q1.mono ?_
 clear q1
 rintro e w2 ⟨rfl,m2⟩
 clear e0 e1 e2 e3 e4 e5 e6 e7 el
 have HX1:=hId (HX.out.new2 m2)
 have HM1:=hId (HM.out.trans m2)
 clear HX HM m2
 have HX:=HX1
 have HM:=HM1
 clear HX1 HM1
 have e0:=HX.out.cell 0
 have e1:=HX.out.cell 1
 have e2:=HX.out.cell 2
 have e3:=HX.out.cell 3
 have e4:=HX.out.cell 4
 have e5:=HX.out.cell 5
 have e6:=HX.out.cell 6
 have e7:=HX.out.cell 7
 have el:=HX.out.lt
 simp only [lqt,lqz,lqs]at e0 e1 e2 e3 e4 e5 e6 e7
 have q1:=msg_pathFault pa w2 (by omega)
 generalize pathBad pa.data.toList=P at *
 by_cases g1:P≠0
 ·have g1b:(P != 0)=true:=by simpa using g1
  have HQ:Hid (R=3):=hId (by rw [HF.out];simp [g1])
  clear HF g1
  go_wp2_with fail
  refine q1.mono ?_
  clear q1
  rintro e w3 ⟨rfl,m3⟩
  clear e0 e1 e2 e3 e4 e5 e6 e7 el
  have HX1:=hId (HX.out.new2 m3)
  have HM1:=hId (HM.out.trans m3)
  clear HX HM m3
  have HX:=HX1
  have HM:=HM1
  clear HX1 HM1
  have e0:=HX.out.cell 0
  have e1:=HX.out.cell 1
  have e2:=HX.out.cell 2
  have e3:=HX.out.cell 3
  have e4:=HX.out.cell 4
  have e5:=HX.out.cell 5
  have e6:=HX.out.cell 6
  have e7:=HX.out.cell 7
  have el:=HX.out.lt
  simp only [lqt,lqz,lqs]at e0 e1 e2 e3 e4 e5 e6 e7
  go_wp2_with fail
  go_ret
  exact HRET.out _ _ HQ.out HM.out
 have g1b:(P != 0)=false:=by simpa using g1
 have HF1:Hid (R=if queryBad qu.data.toList≠0 then 3 else if !isFld fr then 3 else if headsF ls≠0 then headsF ls else if 20000<bo.size then 2 else 0):=hId (by rw [HF.out];simp only [Bool.not_true,Bool.false_eq_true,if_false,if_neg g1])
 clear HF g1
 go_wp2_with fail
 refine q1.mono ?_
 clear q1
 rintro e w3 ⟨rfl,m3⟩
 clear e0 e1 e2 e3 e4 e5 e6 e7 el
 have HX1:=hId (HX.out.new2 m3)
 have HM1:=hId (HM.out.trans m3)
 clear HX HM m3
 have HX:=HX1
 have HM:=HM1
 clear HX1 HM1
 have e0:=HX.out.cell 0
 have e1:=HX.out.cell 1
 have e2:=HX.out.cell 2
 have e3:=HX.out.cell 3
 have e4:=HX.out.cell 4
 have e5:=HX.out.cell 5
 have e6:=HX.out.cell 6
 have e7:=HX.out.cell 7
 have el:=HX.out.lt
 simp only [lqt,lqz,lqs]at e0 e1 e2 e3 e4 e5 e6 e7
 have q1:=msg_queryFault qu w3 (by omega)
 generalize queryBad qu.data.toList=Q at *
 by_cases g2:Q≠0
 ·have g2b:(Q != 0)=true:=by simpa using g2
  have HQ:Hid (R=3):=hId (by rw [HF1.out,if_pos g2])
  clear HF1 g2
  go_wp2_with fail
  refine q1.mono ?_
  clear q1
  rintro e w4 ⟨rfl,m4⟩
  clear e0 e1 e2 e3 e4 e5 e6 e7 el
  have HX1:=hId (HX.out.new2 m4)
  have HM1:=hId (HM.out.trans m4)
  clear HX HM m4
  have HX:=HX1
  have HM:=HM1
  clear HX1 HM1
  have e0:=HX.out.cell 0
  have e1:=HX.out.cell 1
  have e2:=HX.out.cell 2
  have e3:=HX.out.cell 3
  have e4:=HX.out.cell 4
  have e5:=HX.out.cell 5
  have e6:=HX.out.cell 6
  have e7:=HX.out.cell 7
  have el:=HX.out.lt
  simp only [lqt,lqz,lqs]at e0 e1 e2 e3 e4 e5 e6 e7
  go_wp2_with fail
  go_ret
  exact HRET.out _ _ HQ.out HM.out
 have g2b:(Q != 0)=false:=by simpa using g2
 have HF2:=hId (HF1.out.trans (if_neg g2))
 clear HF1 g2
 go_wp2_with fail
 refine q1.mono ?_
 clear q1
 rintro e w4 ⟨rfl,m4⟩
 clear e0 e1 e2 e3 e4 e5 e6 e7 el
 have HX1:=hId (HX.out.new2 m4)
 have HM1:=hId (HM.out.trans m4)
 clear HX HM m4
 have HX:=HX1
 have HM:=HM1
 clear HX1 HM1
 have e0:=HX.out.cell 0
 have e1:=HX.out.cell 1
 have e2:=HX.out.cell 2
 have e3:=HX.out.cell 3
 have e4:=HX.out.cell 4
 have e5:=HX.out.cell 5
 have e6:=HX.out.cell 6
 have e7:=HX.out.cell 7
 have el:=HX.out.lt
 simp only [lqt,lqz,lqs]at e0 e1 e2 e3 e4 e5 e6 e7
 have q1:=msg_isField fr w4 (by omega)
 generalize isFld fr=F at *
 cases F
 ·have HQ:=hId (HF2.out.trans rfl)
  clear HF2
  go_wp2_with fail
  refine q1.mono ?_
  clear q1
  rintro e w5 ⟨rfl,m5⟩
  clear e0 e1 e2 e3 e4 e5 e6 e7 el
  have HX1:=hId (HX.out.new2 m5)
  have HM1:=hId (HM.out.trans m5)
  clear HX HM m5
  have HX:=HX1
  have HM:=HM1
  clear HX1 HM1
  have e0:=HX.out.cell 0
  have e1:=HX.out.cell 1
  have e2:=HX.out.cell 2
  have e3:=HX.out.cell 3
  have e4:=HX.out.cell 4
  have e5:=HX.out.cell 5
  have e6:=HX.out.cell 6
  have e7:=HX.out.cell 7
  have el:=HX.out.lt
  simp only [lqt,lqz,lqs]at e0 e1 e2 e3 e4 e5 e6 e7
  go_wp2_with fail
  go_ret
  exact HRET.out _ _ HQ.out HM.out
 have HF3:Hid (R=if headsF ls≠0 then headsF ls else if 20000<bo.size then 2 else 0):=hId (by rw [HF2.out];rfl)
 clear HF2
 go_wp2_with fail
 refine q1.mono ?_
 clear q1
 rintro e w5 ⟨rfl,m5⟩
 clear e0 e1 e2 e3 e4 e5 e6 e7 el
 have HX1:=hId (HX.out.new2 m5)
 have HM1:=hId (HM.out.trans m5)
 clear HX HM m5
 have HX:=HX1
 have HM:=HM1
 clear HX1 HM1
 have e0:=HX.out.cell 0
 have e1:=HX.out.cell 1
 have e2:=HX.out.cell 2
 have e3:=HX.out.cell 3
 have e4:=HX.out.cell 4
 have e5:=HX.out.cell 5
 have e6:=HX.out.cell 6
 have e7:=HX.out.cell 7
 have el:=HX.out.lt
 simp only [lqt,lqz,lqs]at e0 e1 e2 e3 e4 e5 e6 e7
 have q1:=msg_checkHeaders A n c ls w5 (HHS.out.new HM.out) (by omega) (fun p hp=>by have:=HZ8.out p hp;omega)
 generalize headsF ls=HD at *
 by_cases g3:HD≠0
 ·have g3b:(HD != 0)=true:=by simpa using g3
  have HQ:=hId (HF3.out.trans (if_pos g3))
  clear HF3 g3
  go_wp2_with fail
  refine q1.mono ?_
  clear q1
  rintro e w6 ⟨rfl,m6⟩
  clear e0 e1 e2 e3 e4 e5 e6 e7 el
  have HX1:=hId (HX.out.new2 m6)
  have HM1:=hId (HM.out.trans m6)
  clear HX HM m6
  have HX:=HX1
  have HM:=HM1
  clear HX1 HM1
  have e0:=HX.out.cell 0
  have e1:=HX.out.cell 1
  have e2:=HX.out.cell 2
  have e3:=HX.out.cell 3
  have e4:=HX.out.cell 4
  have e5:=HX.out.cell 5
  have e6:=HX.out.cell 6
  have e7:=HX.out.cell 7
  have el:=HX.out.lt
  simp only [lqt,lqz,lqs]at e0 e1 e2 e3 e4 e5 e6 e7
  go_wp2_with fail
  go_ret
  exact HRET.out _ _ HQ.out HM.out
 have g3b:(HD != 0)=false:=by simpa using g3
 have HF4:=hId (HF3.out.trans (if_neg g3))
 clear HF3 g3
 go_wp2_with fail
 refine q1.mono ?_
 clear q1
 rintro e w6 ⟨rfl,m6⟩
 clear e0 e1 e2 e3 e4 e5 e6 e7 el
 have HX1:=hId (HX.out.new2 m6)
 have HM1:=hId (HM.out.trans m6)
 clear HX HM m6
 have HX:=HX1
 have HM:=HM1
 clear HX1 HM1
 have e0:=HX.out.cell 0
 have e1:=HX.out.cell 1
 have e2:=HX.out.cell 2
 have e3:=HX.out.cell 3
 have e4:=HX.out.cell 4
 have e5:=HX.out.cell 5
 have e6:=HX.out.cell 6
 have e7:=HX.out.cell 7
 have el:=HX.out.lt
 simp only [lqt,lqz,lqs]at e0 e1 e2 e3 e4 e5 e6 e7
 by_cases g4:20000<bo.size
 ·have g4b:(20000:Int)<(bo.size:Int):=by omega
  have HQ:=hId (HF4.out.trans (if_pos g4))
  clear HF4 g4
  go_wp2_with fail
  go_ret
  exact HRET.out _ _ HQ.out HM.out
 ·have g4b:¬ (20000:Int)<(bo.size:Int):=by omega
  have HQ:=hId (HF4.out.trans (if_neg g4))
  clear HF4 g4
  go_wp2_with fail
  go_ret
  exact HRET.out _ _ HQ.out HM.out
set_option maxRecDepth 100000 in
set_option maxHeartbeats 1000000 in
theorem ref_requestFault (r:ReqD) (ls:List PairD) (w:World) (h:HSl w r.ha r.hn ls) (hf:r.Fit ls) (hx:MaxLn w) (hT:Pow10 w):
  Calls Tryz.prog 46 #[r.val] w fun e w'=>e= .returned (.int .i64 (reqF (r.data ls)))∧New w w':=by
 have HT:=hId hT
 clear hT
 obtain⟨at_,me,ho,pa,qu,fr,A,n,c,bo⟩:=r
 obtain⟨i0,z1,z2,z3,z4,z5,z6,z7,z8⟩:=hf
 simp only at h z1 z2 z3 z4 z5 z6 z7
 have HF:Hid (reqF (ReqD.data ⟨at_,me,ho,pa,qu,fr,A,n,c,bo⟩ ls)=if !momentOk at_ then 1 else if !isTok me then 5 else if !hostForm ho then 3 else if pathBad pa.data.toList≠0 then 3 else if queryBad qu.data.toList≠0 then 3 else if !isFld fr then 3 else if headsF ls≠0 then headsF ls else if 20000<bo.size then 2 else 0):=hId rfl
 have HRET:=hId (fun (w':World) (f:Int) (hq:reqF (ReqD.data ⟨at_,me,ho,pa,qu,fr,A,n,c,bo⟩ ls)=f) (hm:New w w')=>(⟨ret_int hq.symm,hm⟩:Ending.returned (.int .i64 f)= .returned (.int .i64 (reqF (ReqD.data ⟨at_,me,ho,pa,qu,fr,A,n,c,bo⟩ ls)))∧New w w'))
 generalize reqF (ReqD.data ⟨at_,me,ho,pa,qu,fr,A,n,c,bo⟩ ls)=R at *
 simp only [ReqD.val]
 have hb:=Blk.new w 33 #[.int .i64 at_,.string me,.string ho,.string pa,.string qu,.string fr,.slice A n c,.string bo]
 have hm:New w (w.alloc (.cells #[.int .i64 at_,.string me,.string ho,.string pa,.string qu,.string fr,.slice A n c,.string bo] 33)):=(Mod.refl _ _).alloc _
 have HHS:=hId h
 have HHX:=hId hx
 have HZ8:=hId z8
 clear h hx z8 i0
 go_enter Tryz.func46,Tryz.ntmps46
 go_upto_region 1 with(fail)
 have HX:=hId hb
 have HM:=hId hm
 clear hb hm
 generalize w.alloc (.cells #[.int .i64 at_,.string me,.string ho,.string pa,.string qu,.string fr,.slice A n c,.string bo] 33)=w1 at *
 generalize w.heap.size=xb at *
 have e0:=HX.out.cell 0
 have e1:=HX.out.cell 1
 have e2:=HX.out.cell 2
 have e3:=HX.out.cell 3
 have e4:=HX.out.cell 4
 have e5:=HX.out.cell 5
 have e6:=HX.out.cell 6
 have e7:=HX.out.cell 7
 have el:=HX.out.lt
 simp only [lqt,lqz,lqs]at e0 e1 e2 e3 e4 e5 e6 e7
 have q1:=ref_moment at_ w1
 generalize momentOk at_=M at *
 cases M
 ·have HQ:=hId (HF.out.trans rfl)
  go_wp2_with fail
  refine q1.mono ?_
  clear q1
  rintro e w' ⟨rfl,rfl⟩
  go_wp2_with fail
  go_ret
  exact HRET.out _ _ HQ.out HM.out
 go_wp2_with fail
 refine q1.mono ?_
 clear q1
 rintro e w' ⟨rfl,rfl⟩
 have q1:=ref_token me w1 (by omega)
 generalize isTok me=T at *
 cases T
 ·have HQ:=hId (HF.out.trans rfl)
  go_wp2_with fail
  refine q1.mono ?_
  clear q1
  rintro e w' ⟨rfl,rfl⟩
  go_wp2_with fail
  go_ret
  exact HRET.out _ _ HQ.out HM.out
 go_wp2_with fail
 refine q1.mono ?_
 clear q1
 rintro e w' ⟨rfl,rfl⟩
 have q1:=ref_hostOf ho w1 (by omega) (HHX.out.new HM.out) (HT.out.new HM.out)
 unfold RHost at q1
 generalize (⟨(hostN ho.data.toList).toArray⟩:ByteArray)=HN at *
 generalize hostForm ho=H at *
 cases H
 ·have HQ:=hId (HF.out.trans rfl)
  simp only [Bool.false_eq_true,if_false]at q1
  go_wp2_with fail
  refine q1.mono ?_
  clear q1
  rintro e w2 ⟨rfl,m2⟩
  clear e0 e1 e2 e3 e4 e5 e6 e7 el
  have HX1:=hId (HX.out.new2 m2)
  have HM1:=hId (HM.out.trans m2)
  clear HX HM m2
  have HX:=HX1
  have HM:=HM1
  clear HX1 HM1
  have e0:=HX.out.cell 0
  have e1:=HX.out.cell 1
  have e2:=HX.out.cell 2
  have e3:=HX.out.cell 3
  have e4:=HX.out.cell 4
  have e5:=HX.out.cell 5
  have e6:=HX.out.cell 6
  have e7:=HX.out.cell 7
  have el:=HX.out.lt
  simp only [lqt,lqz,lqs]at e0 e1 e2 e3 e4 e5 e6 e7
  go_wp2_with fail
  go_ret
  exact HRET.out _ _ HQ.out HM.out
 simp only [if_true]at q1
 go_wp2_with fail
 refine q1.mono ?_
 clear q1
 rintro e w2 ⟨rfl,m2⟩
 clear e0 e1 e2 e3 e4 e5 e6 e7 el
 have HX1:=hId (HX.out.new2 m2)
 have HM1:=hId (HM.out.trans m2)
 clear HX HM m2
 have HX:=HX1
 have HM:=HM1
 clear HX1 HM1
 have e0:=HX.out.cell 0
 have e1:=HX.out.cell 1
 have e2:=HX.out.cell 2
 have e3:=HX.out.cell 3
 have e4:=HX.out.cell 4
 have e5:=HX.out.cell 5
 have e6:=HX.out.cell 6
 have e7:=HX.out.cell 7
 have el:=HX.out.lt
 simp only [lqt,lqz,lqs]at e0 e1 e2 e3 e4 e5 e6 e7
 have q1:=ref2_pathForm pa w2 (by omega)
 generalize pathBad pa.data.toList=P at *
 by_cases g1:P≠0
 ·rw [decide_eq_false g1]at q1
  have HQ:Hid (R=3):=hId (by rw [HF.out];simp [g1])
  clear HF g1
  go_wp2_with fail
  refine q1.mono ?_
  clear q1
  rintro e w3 ⟨rfl,m3⟩
  clear e0 e1 e2 e3 e4 e5 e6 e7 el
  have HX1:=hId (HX.out.new2 m3)
  have HM1:=hId (HM.out.trans m3)
  clear HX HM m3
  have HX:=HX1
  have HM:=HM1
  clear HX1 HM1
  have e0:=HX.out.cell 0
  have e1:=HX.out.cell 1
  have e2:=HX.out.cell 2
  have e3:=HX.out.cell 3
  have e4:=HX.out.cell 4
  have e5:=HX.out.cell 5
  have e6:=HX.out.cell 6
  have e7:=HX.out.cell 7
  have el:=HX.out.lt
  simp only [lqt,lqz,lqs]at e0 e1 e2 e3 e4 e5 e6 e7
  go_wp2_with fail
  go_ret
  exact HRET.out _ _ HQ.out HM.out
 have HF1:Hid (R=if queryBad qu.data.toList≠0 then 3 else if !isFld fr then 3 else if headsF ls≠0 then headsF ls else if 20000<bo.size then 2 else 0):=hId (by rw [HF.out];simp only [Bool.not_true,Bool.false_eq_true,if_false,if_neg g1])
 rw [decide_eq_true (by simpa using g1)]at q1
 clear HF g1
 go_wp2_with fail
 refine q1.mono ?_
 clear q1
 rintro e w3 ⟨rfl,m3⟩
 clear e0 e1 e2 e3 e4 e5 e6 e7 el
 have HX1:=hId (HX.out.new2 m3)
 have HM1:=hId (HM.out.trans m3)
 clear HX HM m3
 have HX:=HX1
 have HM:=HM1
 clear HX1 HM1
 have e0:=HX.out.cell 0
 have e1:=HX.out.cell 1
 have e2:=HX.out.cell 2
 have e3:=HX.out.cell 3
 have e4:=HX.out.cell 4
 have e5:=HX.out.cell 5
 have e6:=HX.out.cell 6
 have e7:=HX.out.cell 7
 have el:=HX.out.lt
 simp only [lqt,lqz,lqs]at e0 e1 e2 e3 e4 e5 e6 e7
 have q1:=ref_queryForm qu w3 (by omega)
 generalize queryBad qu.data.toList=Q at *
 by_cases g2:Q≠0
 ·rw [decide_eq_false g2]at q1
  have HQ:Hid (R=3):=hId (by rw [HF1.out,if_pos g2])
  clear HF1 g2
  go_wp2_with fail
  refine q1.mono ?_
  clear q1
  rintro e w4 ⟨rfl,m4⟩
  clear e0 e1 e2 e3 e4 e5 e6 e7 el
  have HX1:=hId (HX.out.new2 m4)
  have HM1:=hId (HM.out.trans m4)
  clear HX HM m4
  have HX:=HX1
  have HM:=HM1
  clear HX1 HM1
  have e0:=HX.out.cell 0
  have e1:=HX.out.cell 1
  have e2:=HX.out.cell 2
  have e3:=HX.out.cell 3
  have e4:=HX.out.cell 4
  have e5:=HX.out.cell 5
  have e6:=HX.out.cell 6
  have e7:=HX.out.cell 7
  have el:=HX.out.lt
  simp only [lqt,lqz,lqs]at e0 e1 e2 e3 e4 e5 e6 e7
  go_wp2_with fail
  go_ret
  exact HRET.out _ _ HQ.out HM.out
 have HF2:=hId (HF1.out.trans (if_neg g2))
 rw [decide_eq_true (by simpa using g2)]at q1
 clear HF1 g2
 go_wp2_with fail
 refine q1.mono ?_
 clear q1
 rintro e w4 ⟨rfl,m4⟩
 clear e0 e1 e2 e3 e4 e5 e6 e7 el
 have HX1:=hId (HX.out.new2 m4)
 have HM1:=hId (HM.out.trans m4)
 clear HX HM m4
 have HX:=HX1
 have HM:=HM1
 clear HX1 HM1
 have e0:=HX.out.cell 0
 have e1:=HX.out.cell 1
 have e2:=HX.out.cell 2
 have e3:=HX.out.cell 3
 have e4:=HX.out.cell 4
 have e5:=HX.out.cell 5
 have e6:=HX.out.cell 6
 have e7:=HX.out.cell 7
 have el:=HX.out.lt
 simp only [lqt,lqz,lqs]at e0 e1 e2 e3 e4 e5 e6 e7
 have q1:=ref_field fr w4 (by omega)
 generalize isFld fr=F at *
 cases F
 ·have HQ:=hId (HF2.out.trans rfl)
  clear HF2
  go_wp2_with fail
  refine q1.mono ?_
  clear q1
  rintro e w5 ⟨rfl,m5⟩
  clear e0 e1 e2 e3 e4 e5 e6 e7 el
  have HX1:=hId (HX.out.new2 m5)
  have HM1:=hId (HM.out.trans m5)
  clear HX HM m5
  have HX:=HX1
  have HM:=HM1
  clear HX1 HM1
  have e0:=HX.out.cell 0
  have e1:=HX.out.cell 1
  have e2:=HX.out.cell 2
  have e3:=HX.out.cell 3
  have e4:=HX.out.cell 4
  have e5:=HX.out.cell 5
  have e6:=HX.out.cell 6
  have e7:=HX.out.cell 7
  have el:=HX.out.lt
  simp only [lqt,lqz,lqs]at e0 e1 e2 e3 e4 e5 e6 e7
  go_wp2_with fail
  go_ret
  exact HRET.out _ _ HQ.out HM.out
 have HF3:Hid (R=if headsF ls≠0 then headsF ls else if 20000<bo.size then 2 else 0):=hId (by rw [HF2.out];rfl)
 clear HF2
 go_wp2_with fail
 refine q1.mono ?_
 clear q1
 rintro e w5 ⟨rfl,m5⟩
 clear e0 e1 e2 e3 e4 e5 e6 e7 el
 have HX1:=hId (HX.out.new2 m5)
 have HM1:=hId (HM.out.trans m5)
 clear HX HM m5
 have HX:=HX1
 have HM:=HM1
 clear HX1 HM1
 have e0:=HX.out.cell 0
 have e1:=HX.out.cell 1
 have e2:=HX.out.cell 2
 have e3:=HX.out.cell 3
 have e4:=HX.out.cell 4
 have e5:=HX.out.cell 5
 have e6:=HX.out.cell 6
 have e7:=HX.out.cell 7
 have el:=HX.out.lt
 simp only [lqt,lqz,lqs]at e0 e1 e2 e3 e4 e5 e6 e7
 have q1:=ref_headersFault A n c ls w5 (HHS.out.new HM.out) (by omega) (fun p hp=>by have:=HZ8.out p hp;omega)
 generalize headsF ls=HD at *
 by_cases g3:HD≠0
 ·have g3b:(HD != 0)=true:=by simpa using g3
  have HQ:=hId (HF3.out.trans (if_pos g3))
  clear HF3 g3
  go_wp2_with fail
  refine q1.mono ?_
  clear q1
  rintro e w6 ⟨rfl,m6⟩
  clear e0 e1 e2 e3 e4 e5 e6 e7 el
  have HX1:=hId (HX.out.new2 m6)
  have HM1:=hId (HM.out.trans m6)
  clear HX HM m6
  have HX:=HX1
  have HM:=HM1
  clear HX1 HM1
  have e0:=HX.out.cell 0
  have e1:=HX.out.cell 1
  have e2:=HX.out.cell 2
  have e3:=HX.out.cell 3
  have e4:=HX.out.cell 4
  have e5:=HX.out.cell 5
  have e6:=HX.out.cell 6
  have e7:=HX.out.cell 7
  have el:=HX.out.lt
  simp only [lqt,lqz,lqs]at e0 e1 e2 e3 e4 e5 e6 e7
  go_wp2_with fail
  go_ret
  exact HRET.out _ _ HQ.out HM.out
 have g3b:(HD != 0)=false:=by simpa using g3
 have HF4:=hId (HF3.out.trans (if_neg g3))
 clear HF3 g3
 go_wp2_with fail
 refine q1.mono ?_
 clear q1
 rintro e w6 ⟨rfl,m6⟩
 clear e0 e1 e2 e3 e4 e5 e6 e7 el
 have HX1:=hId (HX.out.new2 m6)
 have HM1:=hId (HM.out.trans m6)
 clear HX HM m6
 have HX:=HX1
 have HM:=HM1
 clear HX1 HM1
 have e0:=HX.out.cell 0
 have e1:=HX.out.cell 1
 have e2:=HX.out.cell 2
 have e3:=HX.out.cell 3
 have e4:=HX.out.cell 4
 have e5:=HX.out.cell 5
 have e6:=HX.out.cell 6
 have e7:=HX.out.cell 7
 have el:=HX.out.lt
 simp only [lqt,lqz,lqs]at e0 e1 e2 e3 e4 e5 e6 e7
 by_cases g4:20000<bo.size
 ·have g4b:(20000:Int)<(bo.size:Int):=by omega
  have HQ:=hId (HF4.out.trans (if_pos g4))
  clear HF4 g4
  go_wp2_with fail
  go_ret
  exact HRET.out _ _ HQ.out HM.out
 ·have g4b:¬ (20000:Int)<(bo.size:Int):=by omega
  have HQ:=hId (HF4.out.trans (if_neg g4))
  clear HF4 g4
  go_wp2_with fail
  go_ret
  exact HRET.out _ _ HQ.out HM.out
end Go.Proofs.YtnlloaimplgjnaaGreatDoor
