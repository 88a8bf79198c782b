/- Several texts in one. (1) What Match answers (route.Match, gateref1.MatchOf). Conditions: texts of modest size; the library's variables lie as they should. (2) The parameters with which a ready route takes a request (takesBut, takes: the program's). Conditions: texts of modest size. (3) How much a path's segments weigh: no more bytes than the path has, whatever its normal form writes out; what a template's parameters then hold. No program in sight. Conditions: none. (4) The segments that a part makes of parameters (route.built). Conditions: texts of modest size; the library's variable on searching is an int. (5) Rows that a call owns: striking one element out. No conditions. -/
import Derived.Test.YtnlloaimplgjnaaGreatDoorMatchedGrp
import Derived.Test.YtnlloaimplgjnaaGreatDoorRtLawGrp
import Derived.Test.YtnlloaimplgjnaaGreatDoorAskGrp
import Derived.Test.YtnlloaimplgjnaaGreatDoorRdyFGrp
import Derived.Test.YtnlloaimplgjnaaGreatDoorNumMGrp
import Derived.Test.YtnlloaimplgjnaaGreatDoorDecPGrp
import Derived.Test.YtnlloaimplgjnaaGreatDoorBytesOfGrp
import Derived.Test.YtnlloaimplgjnaaGreatDoorNormGrp
namespace Go.Proofs.YtnlloaimplgjnaaGreatDoor
open Go.RowKit
set_option linter.unusedVariables false
set_option linter.unusedSimpArgs false
/-- the parameters, whether the path fits, the error -/
def RMat (q:List PairD×Bool×Int) (w:World) (e:Ending) (w':World):Prop:=∃ A n c,e= .returned (.tuple #[.slice A n c,.bool q.2.1,.int .i64 q.2.2])∧QSl w' A n q.1∧New w w'∧n≤c
theorem RMat.fault {q:List PairD×Bool×Int} {w w':World} {x:Int} (h:q=([],false,x)) (hm:New w w'):RMat q w (.returned (.tuple #[.slice none 0 0,.bool false,.int .i64 x])) w':=
 ⟨none,0,0,by rw [h],by rw [h];exact Sl.nil,hm,Nat.le_refl _⟩
theorem segsOf_ne {s:ByteArray} (h:(segsOf s).1=0):0<(segsOf s).2.length:=by
 unfold segsOf at h ⊢
 split at h
 ·rename_i h1;exact absurd h h1
 ·rename_i h1
  rw [if_neg h1]
  split at h
  ·cases h
  ·rename_i h2
   rw [if_neg h2]
   have:=pieces_ne (t:=⟨((pathN s).2.drop 1).toArray⟩) (sep:=slB) (Nat.le_refl _)
   simp only [List.length_map]
   exact List.length_pos_iff.2 this
set_option maxRecDepth 100000 in
set_option maxHeartbeats 1500000 in
theorem ref1_matchOf (t path:ByteArray) (w:World) (h1:t.size≤100000) (h2:path.size≤100000) (hx:MaxLn w) (he:ErrSyn w):
  Calls Tryz.prog 53 #[.string t,.string path] w (RMat (matchOf t path) w):=by
 have ht:=ref_templateOf t w h1 hx
 by_cases h1:(tplOf t).1=0
 rotate_left
 ·have HQ:Hid (matchOf t path=([],false,(tplOf t).1)):=hId (by unfold matchOf;rw [if_pos h1])
  generalize tplOf t=q at *
  obtain⟨q1,q2⟩:=q
  simp only at h1 HQ
  have h1':((q1:Int) != 0)=true:=by simpa using h1
  clear h1
  go_enter Tryz.func53,Tryz.ntmps53
  go_wp2_with fail
  refine ht.mono ?_
  clear ht
  rintro e w1 ⟨A,n,c,rfl,-,hm,-⟩
  have HM:=hId hm
  clear hm
  simp only
  go_wp2_with fail
  go_ret3
  exact RMat.fault HQ.out HM.out
 have hsg:=fun W (h:New w W)=>ref2_segmentsOf path W h2 (hx.new h) (he.new h)
 have HSG:=hId hsg
 have HQ0:Hid (matchOf t path=if (segsOf path).1≠0 then([],false,(segsOf path).1) else match matchL (tplOf t).2 (segsOf path).2 []with | none=>([],false,0) | some l=>(l,true,0)):=hId (by unfold matchOf;rw [if_neg (fun h=>h h1)];rfl)
 generalize tplOf t=q at *
 obtain⟨q1,ps⟩:=q
 simp only at h1
 subst h1
 by_cases h2:(segsOf path).1=0
 rotate_left
 ·have HQ:Hid (matchOf t path=([],false,(segsOf path).1)):=hId (by rw [HQ0.out,if_pos h2])
  clear HQ0 hsg
  generalize segsOf path=q at *
  obtain⟨q1,q2⟩:=q
  simp only at h2 HQ
  have h2':((q1:Int) != 0)=true:=by simpa using h2
  clear h2
  go_enter Tryz.func53,Tryz.ntmps53
  go_wp2_with fail
  refine ht.mono ?_
  clear ht
  rintro e w1 ⟨A,n,c,rfl,-,hm,-⟩
  have HM:=hId hm
  have hsg:=HSG.out w1 hm
  clear hm HSG
  simp only
  go_wp2_with fail
  refine hsg.mono ?_
  clear hsg
  rintro e w2 ⟨A2,n2,c2,rfl,-,hm2,-⟩
  have HM2:Hid (New w w2):=hId (HM.out.trans hm2)
  clear hm2 HM
  simp only
  go_wp2_with fail
  go_ret3
  exact RMat.fault HQ.out HM2.out
 obtain⟨hl,hwt⟩:=segs_ok h2
 have hne:=segsOf_ne h2
 have HFT:=hId (PFit.of_wt hwt (by omega))
 have HQ1:Hid (matchOf t path=match matchL ps (segsOf path).2 []with | none=>([],false,0) | some l=>(l,true,0)):=hId (by rw [HQ0.out,if_neg (fun h=>h h2)])
 clear HQ0 hsg hwt
 generalize segsOf path=q at *
 obtain⟨q1,segs⟩:=q
 simp only at h2 hl hne
 subst h2
 go_enter Tryz.func53,Tryz.ntmps53
 go_wp2_with fail
 refine ht.mono ?_
 clear ht
 rintro e w1 ⟨A,n,c,rfl,hps,hm,hn⟩
 have HM:=hId hm
 have HPS:=hId hps
 have hsg:=HSG.out w1 hm
 clear hm HSG hps
 simp only
 go_wp2_with fail
 refine hsg.mono ?_
 clear hsg
 rintro e w2 ⟨A2,n2,c2,rfl,hss,hm2,hc2⟩
 have HM2:Hid (New w w2):=hId (HM.out.trans hm2)
 have hmt:=ref1_matched A n c ps A2 n2 c2 segs w2 (HPS.out.new hm2) hss hn HFT.out hc2 (by have:=hss.1;simp only at this;omega)
 clear hm2 HM hss hne
 simp only
 go_wp2_with fail
 refine hmt.mono ?_
 clear hmt
 rintro e w3 ⟨A3,n3,c3,rfl,hq,hm3,hc3⟩
 have HM3:Hid (New w w3):=hId (HM2.out.trans hm3)
 clear hm3 HM2
 cases hmm:matchL ps segs []with
 | none=>
  have HR:Hid (matchOf t path=([],false,0)):=hId (by rw [HQ1.out];simp only [hmm])
  clear hq
  simp only [Option.isSome_none]
  go_wp2_with fail
  go_ret3
  exact RMat.fault HR.out HM3.out
 | some l=>
  have HR:Hid (matchOf t path=(l,true,0)):=hId (by rw [HQ1.out];simp only [hmm])
  have HS:=hId (hq l hmm)
  clear hq
  simp only [Option.isSome_some]
  go_wp2_with fail
  go_ret3
  exact⟨A3,n3,c3,by rw [HR.out];rfl,by rw [HR.out];exact HS.out,HM3.out,hc3⟩
set_option maxRecDepth 100000 in
set_option maxHeartbeats 1500000 in
theorem rt_takesBut (g:Nat) (y:RdA) (r:RtD) (g2:Nat) (z:AkA) (q:ReqL) (w:World) (h:RdyAt w g y r) (ha:AskAt w g2 z q) (ht:(tplOf r.path).1=0)
  (hz:∀ x∈r.hosts,x.size≤100000) (hl:r.hosts.length≤1000) (hn:r.needs.length≤1000) (hq:q.host.size≤100000) (hzn:z.n≤100000):
  Calls Tryz.prog 81 #[.pointer (some ⟨g,0,none⟩),.pointer (some ⟨g2,0,none⟩)] w (RMatch (butOf r q) w):=by
 have HRK:=hId (fun W (hm:New w W)=>rt_hostRank g y r q.host W (h.new hm) hz hq hl)
 have HMT:=hId (fun W (hm:New w W)=>rt_meets g y r z.A z.n z.c q.heads W (h.new hm) (ha.new hm).h hzn hn)
 have HB0:=hId (fun e=>butOf_bad (r:=r) (q:=q) e)
 have HB1:=hId (fun e=>butOf_right (r:=r) (q:=q) ht e)
 have HSM:=hId (fun (e:(segsOf q.path).1=0)=>segsOf_ne e)
 have HSW:=hId (fun (e:(segsOf q.path).1=0)=>(segs_ok e).2)
 have HMA:=hId (fun W (hm:New w W) (e:(segsOf q.path).1=0)=>route_match y.pa y.pn y.pc (tplOf r.path).2 z.S z.m z.k (segsOf q.path).2 W (h.new hm).p (ha.new hm).s h.pc (PFit.of_wt (HSW.out e) (by omega)) ha.k (by have:=HSM.out e;have:=ha.s.1;omega))
 have HD:=hId h
 have HA:=hId ha
 have HM:=hId (Mod.refl (fun _=>False) w)
 clear h ha hz hl hn hq hzn ht HSM HSW
 have q1:=HRK.out w (Mod.refl _ _)
 unfold RRank at q1
 clear HRK
 have a0:=HA.out.b.cell 0
 have a1:=HA.out.b.cell 1
 have a2:=HA.out.b.cell 2
 have a6:=HA.out.b.cell 6
 have a8:=HA.out.b.cell 8
 have a9:=HA.out.b.cell 9
 have al:=HA.out.b.lt
 simp only [askCells,lqt,lqz,lqs]at a0 a1 a2 a6 a8 a9
 by_cases hs:(segsOf q.path).1=0
 rotate_left
 ·have HR:Hid (butOf r q=none):=hId (HB0.out hs)
  have e9:decide ((segsOf q.path).1≠0)=true:=decide_eq_true hs
  rw [e9]at a9
  have HE9:=hId e9
  clear e9
  clear hs HB0 HB1 HMA HMT
  generalize rankH r.hosts q.host=K at *
  generalize butOf r q=B at *
  obtain⟨k1,k2,k3⟩:=K
  simp only at q1
  go_enter Tryz.func81,Tryz.ntmps81
  go_wp2_with fail
  refine q1.mono ?_
  clear q1
  clear a0 a1 a2 a6 a8 a9 al
  rintro e w1 ⟨rfl,m1⟩
  have HD1:=hId (HD.out.new m1)
  have HA1:=hId (HA.out.new m1)
  have HM1:=hId (HM.out.trans m1)
  clear HD HA HM
  have HD:=HD1
  have HA:=HA1
  have HM:=HM1
  clear HD1 HA1 HM1
  have a0:=HA.out.b.cell 0
  have a1:=HA.out.b.cell 1
  have a2:=HA.out.b.cell 2
  have a6:=HA.out.b.cell 6
  have a8:=HA.out.b.cell 8
  have a9:=HA.out.b.cell 9
  have al:=HA.out.b.lt
  simp only [askCells,lqt,lqz,lqs]at a0 a1 a2 a6 a8 a9
  rw [HE9.out]at a9
  cases k3
  ·go_wp2_with fail
   go_ret2
   exact RMatch.none HR.out HM.out (Nat.zero_le _)
  ·go_wp2_with fail
   go_ret2
   exact RMatch.none HR.out HM.out (Nat.zero_le _)
 have HB:=hId (HB1.out hs)
 have hma:=hId (fun W (hm:New w W)=>HMA.out W hm hs)
 have e9:decide ((segsOf q.path).1≠0)=false:=by simp [hs]
 rw [e9]at a9
 have HE9:=hId e9
 clear HB0 HB1 HMA hs e9
 generalize rankH r.hosts q.host=K at *
 generalize meetsF r.needs q.heads=M at *
 generalize matchL (tplOf r.path).2 (segsOf q.path).2 []=T at *
 generalize butOf r q=B at *
 obtain⟨k1,k2,k3⟩:=K
 simp only at q1 HB
 go_enter Tryz.func81,Tryz.ntmps81
 go_wp2_with fail
 refine q1.mono ?_
 clear q1
 clear a0 a1 a2 a6 a8 a9 al
 rintro e w1 ⟨rfl,m1⟩
 have HD1:=hId (HD.out.new m1)
 have HA1:=hId (HA.out.new m1)
 have HM1:=hId (HM.out.trans m1)
 clear HD HA HM
 have HD:=HD1
 have HA:=HA1
 have HM:=HM1
 clear HD1 HA1 HM1
 have a0:=HA.out.b.cell 0
 have a1:=HA.out.b.cell 1
 have a2:=HA.out.b.cell 2
 have a6:=HA.out.b.cell 6
 have a8:=HA.out.b.cell 8
 have a9:=HA.out.b.cell 9
 have al:=HA.out.b.lt
 simp only [askCells,lqt,lqz,lqs]at a0 a1 a2 a6 a8 a9
 rw [HE9.out]at a9
 cases k3
 ·have HR:Hid (B=none):=hId (by rw [HB.out];rfl)
  clear HB HMT
  go_wp2_with fail
  go_ret2
  exact RMatch.none HR.out HM.out (Nat.zero_le _)
 have q2:=HMT.out w1 HM.out
 clear HMT
 go_upto_region 2 with(fail)
 go_wp2_with fail
 refine q2.mono ?_
 clear q2
 clear a0 a1 a2 a6 a8 a9 al
 rintro e w2 ⟨rfl,m2⟩
 have HD1:=hId (HD.out.new m2)
 have HA1:=hId (HA.out.new m2)
 have HM1:=hId (HM.out.trans m2)
 clear HD HA HM
 have HD:=HD1
 have HA:=HA1
 have HM:=HM1
 clear HD1 HA1 HM1
 cases M
 ·have HR:Hid (B=none):=hId (by rw [HB.out];rfl)
  clear HB
  go_wp2_with fail
  go_ret2
  exact RMatch.none HR.out HM.out (Nat.zero_le _)
 have HR:Hid (B=T):=hId (by rw [HB.out];rfl)
 clear HB
 go_upto_region 4 with(fail)
 have hn1:New w2 w2.drew:=(Mod.refl _ _).drew
 have HSC:Hid (∀ W,New w2 W→(W.cell? ⟨g,6,none⟩=some (.slice y.pa y.pn y.pc)∧g<W.heap.size∧W.cell? ⟨g2,8,none⟩=some (.slice z.S z.m z.k)∧g2<W.heap.size)):=hId (fun W hW=>by
  have h1:=(HD.out.new hW).b
  have h2:=(HA.out.new hW).b
  exact⟨(h1.cell 6).trans rfl,h1.lt,(h2.cell 8).trans rfl,h2.lt⟩)
 refine wp_region_held_ord (fun W=>W.cell? ⟨g,6,none⟩=some (.slice y.pa y.pn y.pc)∧g<W.heap.size∧W.cell? ⟨g2,8,none⟩=some (.slice z.S z.m z.k)∧g2<W.heap.size) [8] [0,1,2,3,4,5,6,7,8,9,10] (by kernel_rfl) (by kernel_rfl) (fun _ _ d _ _ h=>by cases d <;> exact h) ?_ (fun hHeld=>?_)
 ·exact HSC.out _ hn1
 simp only [List.length_cons,List.length_nil,List.drop_succ_cons,List.drop_zero]
 refine heldO_take ?_ (by rfl) (by rfl) (by rfl) (fun w hSw=>?_) ?_
 rotate_left
 ·(try dsimp only at hSw);go_simp;any_goals (with_reducible rfl)
 simp only [Act.put,lgt,lgz,lgs,lzt,lsz,lss]
 refine heldO_take ?_ (by rfl) (by rfl) (by rfl) (fun w hSw=>?_) ?_
 rotate_left
 ·(try dsimp only at hSw);go_simp;any_goals (with_reducible rfl)
 simp only [Act.put,lgt,lgz,lgs,lzt,lsz,lss]
 refine heldO_take ?_ (by rfl) (by rfl) (by rfl) (fun w hSw=>?_) ?_
 rotate_left
 ·(try dsimp only at hSw);go_simp;any_goals (with_reducible rfl)
 simp only [Act.put,lgt,lgz,lgs,lzt,lsz,lss]
 refine heldO_take ?_ (by rfl) (by rfl) (by rfl) (fun w hSw=>?_) ?_
 rotate_left
 ·(try dsimp only at hSw);go_simp;any_goals (with_reducible rfl)
 simp only [Act.put,lgt,lgz,lgs,lzt,lsz,lss]
 refine heldO_take ?_ (by rfl) (by rfl) (by rfl) (fun w hSw=>?_) ?_
 rotate_left
 ·(try dsimp only at hSw);go_simp;any_goals (with_reducible rfl)
 simp only [Act.put,lgt,lgz,lgs,lzt,lsz,lss]
 refine heldO_take ?_ (by rfl) (by rfl) (by rfl) (fun w hSw=>?_) ?_
 rotate_left
 ·(try dsimp only at hSw);go_simp;any_goals (with_reducible rfl)
 simp only [Act.put,lgt,lgz,lgs,lzt,lsz,lss]
 refine heldO_take ?_ (by rfl) (by rfl) (by rfl) (fun w hSw=>?_) ?_
 rotate_left
 ·(try dsimp only at hSw);go_simp;any_goals (with_reducible rfl)
 simp only [Act.put,lgt,lgz,lgs,lzt,lsz,lss]
 refine heldO_take ?_ (by rfl) (by rfl) (by rfl) (fun w hSw=>?_) ?_
 rotate_left
 ·(try dsimp only at hSw);go_simp;any_goals (with_reducible rfl)
 simp only [Act.put,lgt,lgz,lgs,lzt,lsz,lss]
 refine heldO_step (by rfl) (by rfl) (by rfl) (fun K hK=>?_)
 go_simp
 refine(hma.out _ (HM.out.trans hn1)).mono ?_
 rintro e w5 ⟨A5,n5,c5,rfl,hq5,m5,hc5⟩
 have m25:=hn1.trans m5
 go_wp2_with fail
 refine hK.out _ _ (HSC.out _ m25) (fun hHeld=>?_)
 clear hK K
 try simp only [Act.put,lzt,lsz,lss]
 refine heldO_take ?_ (by rfl) (by rfl) (by rfl) (fun w hSw=>?_) ?_
 rotate_left
 ·(try dsimp only at hSw);go_simp;any_goals (with_reducible rfl)
 simp only [Act.put,lgt,lgz,lgs,lzt,lsz,lss]
 refine heldO_take ?_ (by rfl) (by rfl) (by rfl) (fun w hSw=>?_) ?_
 rotate_left
 ·(try dsimp only at hSw);go_simp;any_goals (with_reducible rfl)
 simp only [Act.put,lgt,lgz,lgs,lzt,lsz,lss]
 refine heldO_nil ?_
 have HF:Hid (RMatch B w (.returned (.tuple #[.slice A5 n5 c5,.bool T.isSome])) w5):=hId ⟨A5,n5,c5,by rw [HR.out],by rw [HR.out];exact hq5,HM.out.trans m25,hc5⟩
 clear hq5 m5 hc5 HR m25 hn1 HSC hma
 go_wp2_with fail
 go_ret2
 exact HF.out
set_option maxRecDepth 100000 in
set_option maxHeartbeats 1000000 in
theorem rt_takes (g:Nat) (y:RdA) (r:RtD) (g2:Nat) (z:AkA) (q:ReqL) (w:World) (h:RdyAt w g y r) (ha:AskAt w g2 z q) (ht:(tplOf r.path).1=0)
  (hz:∀ x∈r.hosts,x.size≤100000) (hl:r.hosts.length≤1000) (hn:r.needs.length≤1000) (hmm:r.methods.length≤1000) (hq:q.host.size≤100000) (hzn:z.n≤100000):
  Calls Tryz.prog 28 #[.pointer (some ⟨g,0,none⟩),.pointer (some ⟨g2,0,none⟩)] w (RMatch (hitOf r q) w):=by
 have q1:=rt_hasMethod g y r q.method w h hmm
 have HTB:=hId (fun W (hm:New w W)=>rt_takesBut g y r g2 z q W (h.new hm) (ha.new hm) ht hz hl hn hq hzn)
 have HH:Hid (hitOf r q=if methOk r q.method then butOf r q else none):=hId rfl
 have HA:=hId ha
 clear h ha hz hl hn hq hzn ht hmm
 generalize methOk r q.method=M at *
 generalize butOf r q=B at *
 generalize hitOf r q=H at *
 have a0:=HA.out.b.cell 0
 have a1:=HA.out.b.cell 1
 have a2:=HA.out.b.cell 2
 have a6:=HA.out.b.cell 6
 have a8:=HA.out.b.cell 8
 have a9:=HA.out.b.cell 9
 have al:=HA.out.b.lt
 simp only [askCells,lqt,lqz,lqs]at a0 a1 a2 a6 a8 a9
 go_enter Tryz.func28,Tryz.ntmps28
 go_wp2_with fail
 refine q1.mono ?_
 clear q1
 clear a0 a1 a2 a6 a8 a9 al
 rintro e w1 ⟨rfl,m1⟩
 have HM:=hId m1
 clear m1
 cases M
 ·have HR:Hid (H=none):=hId HH.out
  clear HH HTB
  go_wp2_with fail
  go_ret2
  exact RMatch.none HR.out HM.out (Nat.zero_le _)
 have hb:=HTB.out w1 HM.out
 clear HTB
 go_wp2_with fail
 refine hb.mono ?_
 clear hb
 rintro e w2 ⟨A2,n2,c2,rfl,hq2,m2,hc2⟩
 have HF:Hid (RMatch H w (.returned (.tuple #[.slice A2 n2 c2,.bool B.isSome])) w2):=hId ⟨A2,n2,c2,by rw [HH.out];rfl,by rw [HH.out];exact hq2,HM.out.trans m2,hc2⟩
 clear hq2 m2 hc2 HH HM
 go_wp2_with fail
 go_ret2
 exact HF.out
/-- how many bytes a text stands for, read leniently -/
def dn:List UInt8→Nat
 | []=>0
 | [_]=>1
 | [_,_]=>2
 | a::b::c::r=>if a=37 then(if isHexN b.toNat&&isHexN c.toNat then 1+dn r else 1+dn (b::c::r)) else 1+dn (b::c::r)
theorem dn_plain {a:UInt8} (h:a≠37) (r:List UInt8):dn (a::r)=1+dn r:=by
 match r with
 | []=>simp [dn]
 | [b]=>simp [dn]
 | b::c::r=>simp only [dn];rw [if_neg h]
theorem dn_unit {b c:UInt8} (h:(isHexN b.toNat&&isHexN c.toNat)=true) (r:List UInt8):dn (37::b::c::r)=1+dn r:=by
 rw [dn,if_pos rfl,if_pos h]
theorem dn_bad {b c:UInt8} (h:(isHexN b.toNat&&isHexN c.toNat)=false) (r:List UInt8):dn (37::b::c::r)=1+dn (b::c::r):=by
 rw [dn,if_pos rfl,if_neg (by rw [h];decide)]
theorem dn_cons (a:UInt8) (r:List UInt8):dn (a::r)≤1+dn r∧dn r≤1+dn (a::r):=by
 match r with
 | []=>simp [dn]
 | [b]=>simp [dn]
 | b::c::r=>
  by_cases h:a=37
  ·subst h
   cases hx:(isHexN b.toNat&&isHexN c.toNat)
   ·rw [dn_bad hx];omega
   ·have hb:b≠37:=fun e=>by subst e;rw [hex_pct]at hx;cases hx
    have hc:c≠37:=fun e=>by subst e;rw [hex_pct,Bool.and_false]at hx;cases hx
    rw [dn_unit hx,dn_plain hb,dn_plain hc];omega
  ·rw [dn_plain h];omega
theorem dn_dec:∀(n:Nat) (l o:List UInt8),l.length≤n→decL l=some o→o.length≤dn l
 | _,[],o,_,h=>by simp [decL]at h;subst h;simp
 | 0,a::r,o,hn,h=>by simp at hn
 | n+1,a::r,o,hn,h=>by
  have hn':r.length≤n:=by simpa using hn
  by_cases e:a=37
  ·subst e
   match r,h,hn' with
   | [],h,_=>simp [decL]at h
   | [b],h,_=>simp [decL]at h
   | b::c::r,h,hn'=>
    cases hx:(isHexN b.toNat&&isHexN c.toNat)
    ·rw [decL_bad1 hx]at h;cases h
    ·rw [decL_unit hx]at h
     cases hd:decL r with
     | none=>rw [hd]at h;cases h
     | some q=>
      rw [hd]at h
      simp only [Option.map_some,Option.some.injEq]at h
      subst h
      have:=dn_dec n r q (by simp only [List.length_cons]at hn';omega) hd
      rw [dn_unit hx,List.length_cons];omega
  ·rw [decL_plain e]at h
   cases hd:decL r with
   | none=>rw [hd]at h;cases h
   | some q=>
    rw [hd]at h
    simp only [Option.map_some,Option.some.injEq]at h
    subst h
    have:=dn_dec n r q hn' hd
    rw [dn_plain e,List.length_cons];omega
theorem hex_slash:isHexN (47:UInt8).toNat=false:=by decide
theorem dn_sep:∀(n:Nat) (a:List UInt8),a.length≤n→∀ b,dn (a++47::b)=dn a+1+dn b
 | _,[],_,b=>by
  rw [List.nil_append,dn_plain (by decide)]
  simp [dn]
 | 0,_::_,h,_=>by simp at h
 | n+1,x::r,h,b=>by
  have hr:r.length≤n:=by simpa using h
  by_cases e:x=37
  ·subst e
   match r,hr with
   | [],_=>
    rw [List.cons_append,List.nil_append]
    cases b with
    | nil=>simp [dn]
    | cons y b=>
     rw [dn_bad (by rw [hex_slash];rfl),dn_plain (by decide)]
     simp [dn];omega
   | [y],_=>
    rw [List.cons_append,List.cons_append,List.nil_append,dn_bad (by rw [hex_slash,Bool.and_false])]
    have h2:=dn_sep n [y] (by simp only [List.length_cons,List.length_nil]at h ⊢;omega) b
    simp only [List.cons_append,List.nil_append]at h2
    rw [h2]
    simp [dn];omega
   | y::z::r,hr=>
    rw [List.cons_append,List.cons_append,List.cons_append]
    cases hx:(isHexN y.toNat&&isHexN z.toNat)
    ·have h2:=dn_sep n (y::z::r) hr b
     simp only [List.cons_append]at h2
     rw [dn_bad hx,dn_bad hx,h2];omega
    ·rw [dn_unit hx,dn_unit hx,dn_sep n r (by simp only [List.length_cons]at hr;omega)];omega
  ·rw [List.cons_append,dn_plain e,dn_plain e,dn_sep n r hr];omega
theorem hex_up:∀ k:Fin 16,isHexN (upHex k.val).toNat=true:=by decide
theorem hex_up' {k:Nat} (h:k<16):isHexN (upHex k).toNat=true:=hex_up ⟨k,h⟩
theorem dn_norm (x:UInt8×Bool) (r:List UInt8):dn (normC x++r)≤1+dn r:=by
 unfold normC
 split
 ·exact(dn_cons _ _).1
 ·split
  ·exact(dn_cons _ _).1
  ·unfold pctC
   have h1:x.1.toNat<256:=x.1.toNat_lt
   show dn (37::_::_::r)≤_
   rw [dn_unit (by rw [hex_up' (by omega),hex_up' (by omega)];rfl)]
   exact Nat.le_refl _
theorem dn_flat:∀ u:List (UInt8×Bool),dn (u.flatMap normC)≤u.length
 | []=>by simp [dn]
 | x::u=>by
  rw [List.flatMap_cons,List.length_cons]
  have h1:=dn_norm x (u.flatMap normC)
  have h2:=dn_flat u
  omega
def wtD (l:List ByteArray):Nat:=(l.map fun x=>dn x.data.toList+1).sum
theorem wtD_cons (x:ByteArray) (l:List ByteArray):wtD (x::l)=dn x.data.toList+1+wtD l:=by simp [wtD]
theorem wtD_snoc (l:List ByteArray) (x:ByteArray):wtD (l++ [x])=wtD l+(dn x.data.toList+1):=by simp [wtD]
theorem wtD_dropLast (l:List ByteArray):wtD l.dropLast≤wtD l:=by
 rcases List.eq_nil_or_concat l with rfl |⟨l',x,rfl⟩
 ·simp
 ·rw [List.concat_eq_append,List.dropLast_concat,wtD_snoc];omega
theorem dotsF_wtD:∀(xs st:List ByteArray),wtD (dotsF xs st)≤wtD xs+wtD st
 | [],st=>by simp [dotsF]
 | x::xs,st=>by
  rw [dotsF,wtD_cons]
  have hd:=wtD_dropLast st
  have he:dn (emptyB:ByteArray).data.toList=0:=rfl
  split
  ·have:=dotsF_wtD xs (if xs.isEmpty then st++ [emptyB] else st)
   split at this
   ·rename_i h2;rw [if_pos h2];rw [wtD_snoc]at this;omega
   ·rename_i h2;rw [if_neg h2];omega
  ·split
   ·have:=dotsF_wtD xs (if xs.isEmpty then st.dropLast++ [emptyB] else st.dropLast)
    split at this
    ·rename_i h2;rw [if_pos h2];rw [wtD_snoc]at this;omega
    ·rename_i h2;rw [if_neg h2];omega
   ·have:=dotsF_wtD xs (st++ [x])
    rw [wtD_snoc]at this
    omega
theorem pieces_wtD:∀(n:Nat) (t:ByteArray),t.size≤n→wtD (pieces t slB)=dn t.data.toList+1
 | n,t,hn=>by
  rcases one_cases 47 t with⟨_,h2,_⟩ |⟨h1,h2⟩
  ·rw [show (slB:ByteArray)=⟨#[47]⟩ from rfl,h2];simp [wtD]
  ·have hj:=cutL_join 47 t.data.toList
   rw [h1,if_pos rfl]at hj
   have hl:(⟨(cutL 47 t.data.toList).2.1.toArray⟩:ByteArray).size<t.size:=by
    have e:t.data.toList.length=t.size:=rfl
    have:=congrArg List.length hj
    rw [List.length_append,List.length_cons]at this
    show(List.toArray _).size<_
    rw [List.size_toArray]
    omega
   match n,hn with
   | 0,hn=>exact absurd hl (by omega)
   | n+1,hn=>
    have ih:=pieces_wtD n (⟨(cutL 47 t.data.toList).2.1.toArray⟩:ByteArray) (by omega)
    rw [show (slB:ByteArray)=⟨#[47]⟩ from rfl]at ih ⊢
    rw [h2,wtD_cons,ih]
    conv=>rhs;rw [hj]
    rw [dn_sep _ _ (Nat.le_refl _)]
    show dn (cutL 47 t.data.toList).1+1+(dn (cutL 47 t.data.toList).2.1+1)=_
    omega
theorem join_dn:∀(l:List ByteArray),dn (Lib.join (l.map (·.data.toList)) [47])≤wtD l
 | []=>by simp [Lib.join_nil,dn]
 | [x]=>by
  rw [List.map_cons,List.map_nil,Lib.join_one,wtD_cons]
  omega
 | x::y::r=>by
  have ih:=join_dn (y::r)
  have e:Lib.join ((x::y::r).map (·.data.toList)) [47]=x.data.toList++47::Lib.join ((y::r).map (·.data.toList)) [47]:=by
   simp only [List.map_cons]
   rw [Lib.join_cons,Lib.join_cons]
   simp [Lib.joinTail]
  rw [e,dn_sep _ _ (Nat.le_refl _),wtD_cons]
  omega
theorem decB_dn (x:ByteArray):(decB x).size≤dn x.data.toList:=by
 unfold decB
 show(List.toArray _).size≤_
 rw [List.size_toArray]
 cases h:decL x.data.toList with
 | none=>simp
 | some o=>exact dn_dec _ _ _ (Nat.le_refl _) h
theorem decB_wtD:∀ l:List ByteArray,wtL (l.map decB)≤wtD l
 | []=>by simp [wtL,wtD]
 | x::l=>by
  have h1:=decB_dn x
  have h2:=decB_wtD l
  rw [List.map_cons,wtL_cons,wtD_cons]
  omega
/-- a right path's segments weigh no more than it -/
theorem segs_wtD {s:ByteArray} (h:(segsOf s).1=0):wtL (segsOf s).2≤1003:=by
 unfold segsOf at h ⊢
 by_cases g:(pathN s).1≠0
 ·rw [if_pos g]at h;exact absurd h g
 rw [if_neg g]at h ⊢
 have h0:(pathN s).1=0:=Decidable.not_not.1 g
 have hz:=pathN_small h0
 by_cases g1:100<(pieces ⟨((pathN s).2.drop 1).toArray⟩ slB).length
 ·rw [if_pos g1]at h;cases h
 rw [if_neg g1]
 simp only
 clear g g1 h
 unfold pathN at h0 ⊢
 by_cases g2:pathBad s.data.toList≠0
 ·rw [if_pos g2]at h0;exact absurd h0 g2
 rw [if_neg g2]at h0 ⊢
 cases hn:normL s.data.toList with
 | none=>rw [hn]at h0;cases h0
 | some t=>
  simp only
  have hu:dn t≤s.size:=by
   unfold normL at hn
   cases hq:unitsL s.data.toList with
   | none=>rw [hq]at hn;cases hn
   | some u=>
    rw [hq]at hn
    simp only [Option.map_some,Option.some.injEq]at hn
    subst hn
    have h1:=unitsL_length _ _ _ (Nat.le_refl _) hq
    have h2:=dn_flat u
    have h3:s.data.toList.length=s.size:=rfl
    omega
  have hd:dn (t.drop 1)≤1+dn t:=by
   cases t with
   | nil=>simp
   | cons a t=>exact(dn_cons a t).2
  have h1:=decB_wtD (pieces ⟨((slashed (dotsF (pieces ⟨(t.drop 1).toArray⟩ slB) [])).drop 1).toArray⟩ slB)
  have h2:=pieces_wtD _ (⟨((slashed (dotsF (pieces ⟨(t.drop 1).toArray⟩ slB) [])).drop 1).toArray⟩:ByteArray) (Nat.le_refl _)
  have h3:=join_dn (dotsF (pieces ⟨(t.drop 1).toArray⟩ slB) [])
  have h4:=dotsF_wtD (pieces ⟨(t.drop 1).toArray⟩ slB) []
  have h5:=pieces_wtD _ (⟨(t.drop 1).toArray⟩:ByteArray) (Nat.le_refl _)
  have h6:wtD []=0:=rfl
  have e1:dn (⟨((slashed (dotsF (pieces ⟨(t.drop 1).toArray⟩ slB) [])).drop 1).toArray⟩:ByteArray).data.toList=dn (Lib.join ((dotsF (pieces ⟨(t.drop 1).toArray⟩ slB) []).map (·.data.toList)) [47]):=rfl
  have e2:dn (⟨(t.drop 1).toArray⟩:ByteArray).data.toList=dn (t.drop 1):=rfl
  omega
/-- what parameters hold -/
theorem matchL_val {Z:Nat}:∀(ps:List PartD) (segs:List ByteArray) (out l:List PairD),matchL ps segs out=some l→3 * wtL segs≤Z→(∀ p∈out,p.2.size≤Z)→∀ p∈l,p.2.size≤Z
 | [],segs,out,l,h,hz,ho=>by
  unfold matchL at h
  split at h
  ·injection h with h;rw [← h];exact ho
  ·cases h
 | p::ps,segs,out,l,h,hz,ho=>by
  unfold matchL at h
  split at h
  ·injection h with h
   rw [← h]
   intro q hq
   rcases List.mem_append.1 hq with hq | hq
   ·exact ho q hq
   ·simp only [List.mem_singleton]at hq
    subst hq
    have h1:=pathT_wt segs
    show(List.toArray _).size≤_
    rw [List.size_toArray]
    omega
  ·split at h
   ·cases h
   ·rename_i s ss
    have hw:wtL (s::ss)=s.size+1+wtL ss:=wtL_cons s ss
    split at h
    ·cases h
    ·refine matchL_val ps ss _ l h (by omega) ?_
     split
     ·intro q hq
      rcases List.mem_append.1 hq with hq | hq
      ·exact ho q hq
      ·simp only [List.mem_singleton]at hq
       subst hq
       show s.size≤Z
       omega
     ·exact ho
theorem match_val {t pa:ByteArray}:∀ p∈(matchOf t pa).1,p.2.size≤3100:=by
 unfold matchOf
 by_cases h0:(tplOf t).1≠0
 ·rw [if_pos h0];simp
 rw [if_neg h0]
 by_cases h1:(segsOf pa).1≠0
 ·rw [if_pos h1];simp
 rw [if_neg h1]
 cases hm:matchL (tplOf t).2 (segsOf pa).2 []with
 | none=>simp
 | some l=>
  have hw:=segs_wtD (Decidable.not_not.1 h1)
  exact matchL_val _ _ _ l hm (by omega) (by simp)
theorem lookP_mem {l:List PairD} {s v:ByteArray} (h:lookP l s=some v):∃ p∈l,p.2=v:=by
 induction l with
 | nil=>simp [lookP]at h
 | cons p l ih=>
  unfold lookP at h
  simp only [List.find?_cons]at h
  split at h
  ·simp at h;exact⟨p,by simp,h⟩
  ·obtain⟨q,hq,e⟩:=ih h
   exact⟨q,List.mem_cons_of_mem _ hq,e⟩
theorem one_row {w w':World} {g:Nat} {v:ByteArray} (h:Blk w' g 9 #[.string v]):SSl w' (some ⟨g,0,none⟩) 1 [v]:=by
 refine Sl.of_blk h (by simp) (fun i hi j hj=>?_)
 obtain rfl:j=0:=by omega
 obtain rfl:i=0:=by simpa using hi
 rfl
theorem RSegs.one {q:Int×List ByteArray} {w w':World} {v:ByteArray} {g:Nat} (h:q=(0,[v])) (hm:New w w') (hb:Blk w' g 9 #[.string v]):RSegs q w (.returned (.tuple #[.slice (some ⟨g,0,none⟩) 1 1,.int .i64 0])) w':=
 ⟨some ⟨g,0,none⟩,1,1,by rw [h],by rw [h];exact one_row (w:=w) hb,hm,Nat.le_refl _⟩
set_option maxRecDepth 100000 in
set_option maxHeartbeats 1500000 in
theorem route_built (p:PartD) (A:Option Addr) (n c:Nat) (l:List PairD) (w:World) (hq:QSl w A n l) (hn:n≤100000) (hz:∀ x∈l,x.2.size≤100000) (hx:MaxLn w):
  Calls Tryz.prog 83 #[p.val,.slice A n c] w (RSegs (builtP p l) w):=by
 obtain⟨pk,pn⟩:=p
 have hb:=Blk.new w 78 #[.int .i64 pk,.string pn]
 have hm1:New w (w.alloc (.cells #[.int .i64 pk,.string pn] 78)):=(Mod.refl _ _).alloc _
 have HQ0:=hId hq
 have HX0:=hId hx
 unfold PartD.val
 simp only
 clear hq hx
 go_enter Tryz.func83,Tryz.ntmps83
 go_upto_region 1 with fail
 have HB:=hId hb
 have HM:=hId hm1
 clear hb hm1
 generalize w.alloc (.cells #[.int .i64 pk,.string pn] 78)=w1 at *
 generalize w.heap.size=xb at *
 have y0:=HB.out.cell 0
 have y1:=HB.out.cell 1
 have yl:=HB.out.lt
 simp only [lqt,lqz,lqs]at y0 y1
 by_cases h1:pk=1
 ·subst h1
  have HR:Hid (builtP ⟨1,pn⟩ l=(0,[pn])):=hId (by unfold builtP;rw [if_pos rfl])
  have HN:=hId (Blk.new w1 9 #[.string pn])
  have HM2:Hid (New w (w1.alloc (.cells #[.string pn] 9))):=hId (HM.out.alloc _)
  go_wp2_with fail
  go_ret2
  exact RSegs.one HR.out HM2.out HN.out
 ·have h1':((pk:Int) == 1)=false:=by simpa using h1
  have hlk:=route_param A n c l pn w1 (HQ0.out.new HM.out) hn
  cases hv:lookP l pn with
  | none=>
   rw [hv]at hlk
   have HR:Hid (builtP ⟨pk,pn⟩ l=(8,[])):=hId (by unfold builtP;rw [if_neg h1];simp only [hv])
   clear hv
   go_wp2_with fail
   refine hlk.mono ?_
   clear hlk
   rintro e w2 ⟨rfl,hm2⟩
   have HM2:Hid (New w w2):=hId (HM.out.trans hm2)
   clear hm2
   simp only [Option.isSome_none]
   go_wp2_with fail
   go_ret2
   exact RSegs.fault HR.out HM2.out
  | some v=>
   rw [hv]at hlk
   have hR:builtP ⟨pk,pn⟩ l=if pk=2 then(if v=emptyB then(3,[]) else(0,[v])) else if v=emptyB then(0,[]) else segsOf v:=by
    unfold builtP;rw [if_neg h1];simp only [hv]
   obtain⟨px,hpx,hpv⟩:=lookP_mem hv
   have hvz:v.size≤100000:=by rw [← hpv];exact hz _ hpx
   have e1:=const_eq v []
   have HR0:=hId hR
   clear hR hv hpx hpv hz
   go_wp2_with fail
   refine hlk.mono ?_
   clear hlk y0 y1 yl
   rintro e w2 ⟨rfl,hm2⟩
   have HM2:Hid (New w w2):=hId (HM.out.trans hm2)
   have HB2:=hId (HB.out.new2 hm2)
   have y0:=HB2.out.cell 0
   have y1:=HB2.out.cell 1
   have yl:=HB2.out.lt
   simp only [lqt,lqz,lqs]at y0 y1
   have hsg:=msg_segments v w2 hvz (HX0.out.new HM2.out)
   clear hm2 HM HB
   simp only [Option.isSome_some,Option.getD_some]
   by_cases h2:pk=2
   ·subst h2
    by_cases hve:v=emptyB
    ·rw [decide_eq_true hve]at e1
     have HR:Hid (builtP ⟨2,pn⟩ l=(3,[])):=hId (by rw [HR0.out,if_pos rfl,if_pos hve])
     clear hve hsg
     go_wp2_with fail
     try(go_quiet (fail))
     try(go_wp2_with fail)
     go_ret2
     exact RSegs.fault HR.out HM2.out
    ·rw [decide_eq_false hve]at e1
     have HR:Hid (builtP ⟨2,pn⟩ l=(0,[v])):=hId (by rw [HR0.out,if_pos rfl,if_neg hve])
     have HN:=hId (Blk.new w2 9 #[.string v])
     have HM3:Hid (New w (w2.alloc (.cells #[.string v] 9))):=hId (HM2.out.alloc _)
     clear hve hsg
     go_wp2_with fail
     try(go_quiet (fail))
     try(go_wp2_with fail)
     go_ret2
     exact RSegs.one HR.out HM3.out HN.out
   ·have h2':((pk:Int) == 2)=false:=by simpa using h2
    by_cases hve:v=emptyB
    ·rw [decide_eq_true hve]at e1
     have HR:Hid (builtP ⟨pk,pn⟩ l=(0,[])):=hId (by rw [HR0.out,if_neg h2,if_pos hve])
     clear hve hsg
     go_wp2_with fail
     try(go_quiet (fail))
     try(go_wp2_with fail)
     go_ret2
     exact RSegs.fault HR.out HM2.out
    ·rw [decide_eq_false hve]at e1
     have HR:Hid (builtP ⟨pk,pn⟩ l=segsOf v):=hId (by rw [HR0.out,if_neg h2,if_neg hve])
     clear hve
     go_wp2_with fail
     try(go_quiet (fail))
     try(go_wp2_with fail)
     refine hsg.mono ?_
     clear hsg
     rintro e w3 ⟨A3,n3,c3,rfl,hs3,hm3,hc3⟩
     have HM3:Hid (New w w3):=hId (HM2.out.trans hm3)
     have HS3:=hId hs3
     clear hm3 hs3
     generalize segsOf v=q at *
     obtain⟨q1,q2⟩:=q
     simp only at HS3 ⊢
     go_wp2_with fail
     go_ret2
     exact⟨A3,n3,c3,by rw [HR.out];rfl,by rw [HR.out];exact HS3.out,HM3.out,hc3⟩
/-- an append whose run is known -/
theorem wpList_append_by {P:Program} {w w':World} {ops:Array Oper} {rest:List Oper} {o:Oper} {a:Act} {Q:Exit→Act→World→Prop} (hgd:o.guard=none) (s x:Operand) (t:TypeId)
  (ho:o.op= .call {callee:=.builtin .append,args:=#[s,x],argTypes:=#[t,t]}) {v1 v2 v:Value} (hs:a.eval s=v1) (hx:a.eval x=v2) (hr:∀ ty,(Builtin.append_ #[t,t] ty #[v1,v2]).run P w= .ok v w')
  (h:wpList P ops Q rest (a.put o.dst v) w'):wpList P ops Q (o::rest) a w:=by
 refine wpList_plain hgd fun K hK=>?_
 unfold Oper.wp execOp
 simp only [ho,resolve,invoke,builtin,Sem.run_bind,Sem.run_pure,Result.andThen_ok,List.map_toArray,List.map_cons,List.map_nil,hs,hx,hr]
 exact hK _ _ h
end Go.Proofs.YtnlloaimplgjnaaGreatDoor
