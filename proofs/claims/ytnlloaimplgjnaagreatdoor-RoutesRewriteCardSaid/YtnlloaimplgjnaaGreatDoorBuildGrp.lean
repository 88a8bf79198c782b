/- Several texts in one. (1) The path that a template makes of parameters (route.Build). Conditions: texts of modest size; the library's variable on searching is an int. (2) The parts of a template are few and their names short. Plain law. No conditions. (3) Which route takes a request, the plain law: as the reference asks it; how large the parameters are. No program in sight. No conditions. (4) Routes as text, the plain law: how long a text is, line by line. No conditions. (5) Writing routes: a Builder of any modest size; routes in memory while one is written. No conditions beside sizes. (6) Makers of routes: a route being filled in memory; literals of rows. No conditions. -/
import Derived.Test.YtnlloaimplgjnaaGreatDoorMatchOfGrp
import Derived.Test.YtnlloaimplgjnaaGreatDoorRtLawGrp
import Derived.Test.YtnlloaimplgjnaaGreatDoorChgLawGrp
import Derived.Test.YtnlloaimplgjnaaGreatDoorBuGrp
import Derived.Test.YtnlloaimplgjnaaGreatDoorTpl2Grp
namespace Go.Proofs.YtnlloaimplgjnaaGreatDoor
open Go.RowKit
set_option linter.unusedVariables false
set_option linter.unusedSimpArgs false
theorem QSl.take {w:World} {A:Option Addr} {n:Nat} {ps:List PairD} (h:QSl w A n ps) {k:Nat} (hk:k≤n):QSl w A k (ps.take k):=by
 have hl:=h.1
 refine⟨by simp;omega,fun h0=>?_⟩
 obtain⟨g,o,hA,htb,hc⟩:=h.2 (by omega)
 exact⟨g,o,hA,htb,fun i hi j hj=>by
  have hi2:i<ps.length:=by simp at hi;omega
  rw [hc i hi2 j hj]
  simp⟩
/-- no name among the first k stands twice -/
def onceP (l:List PairD) (k:Nat):Prop:=(List.range k).any (fun i=>(l[i]?).any fun p=>(lookP (l.take i) p.1).isSome)=false
theorem onceP.next {l:List PairD} {k:Nat} (h:onceP l k) (hk:k<l.length) (h2:lookP (l.take k) l[k].1=none):onceP l (k+1):=by
 unfold onceP at h ⊢
 rw [List.range_succ,List.any_append,h,Bool.false_or,List.any_cons,List.getElem?_eq_getElem hk]
 simp [h2]
theorem onceP.hit {l:List PairD} {k:Nat} (hk:k<l.length) {v:ByteArray} (h2:lookP (l.take k) l[k].1=some v):twiceP l=true:=by
 unfold twiceP
 rw [List.any_eq_true]
 exact⟨k,by simp;omega,by rw [List.getElem?_eq_getElem hk];simp [h2]⟩
theorem onceP.all {l:List PairD} (h:onceP l l.length):twiceP l=false:=h
theorem buildL_at {ps:List PartD} {params:List PairD} {k:Nat} (h:k<ps.length) (out:List ByteArray):
  builtL (ps.drop k) params out=if (builtP ps[k] params).1≠0 then((builtP ps[k] params).1,[]) else builtL (ps.drop (k+1)) params (out++(builtP ps[k] params).2):=by
 rw [List.drop_eq_getElem_cons h,builtL]
theorem builtP_ok {p:PartD} {l:List PairD} (h:(builtP p l).1=0) (hp:p.name.size≤999) (hz:∀ x∈l,x.2.size≤3100):(builtP p l).2.length≤100∧wtL (builtP p l).2≤3110:=by
 unfold builtP at h ⊢
 split
 ·simp [wtL];omega
 ·rename_i h1
  rw [if_neg h1]at h
  cases hv:lookP l p.name with
  | none=>rw [hv]at h;cases h
  | some v=>
   rw [hv]at h
   simp only at h ⊢
   obtain⟨x,hx,e⟩:=lookP_mem hv
   have hvz:v.size≤3100:=by rw [← e];exact hz _ hx
   split
   ·split
    ·simp [wtL]
    ·simp [wtL];omega
   ·rename_i h2
    rw [if_neg h2]at h
    split
    ·simp [wtL]
    ·rename_i h3
     rw [if_neg h3]at h
     have:=(segs_ok h).2
     exact⟨(segs_ok h).1,by omega⟩
theorem wtL_append (a b:List ByteArray):wtL (a++b)=wtL a+wtL b:=by simp [wtL]
theorem append_empty {P:Program} {t e:TypeId} (ht:P.underlying t=some (.slice e)) {i:TypeInfo} (hi:P.info? e=some i) (A A2:Option Addr) (n c c2:Nat) (h:n≤c) (ty:TypeId) (w:World):
  (Builtin.append_ #[t,t] ty #[.slice A n c,.slice A2 0 c2]).run P w= .ok (.slice A n c) w:=by
 cases A <;> cases A2 <;> simp [Builtin.append_,run_underlying ht,sizeOf,typeInfo,hi,Builtin.lenOf,Builtin.firstCells,h,storeCells,loadCells,loadCellsFrom]
set_option maxRecDepth 100000 in
set_option maxHeartbeats 600000 in
theorem route_Build (t:ByteArray) (A:Option Addr) (n c:Nat) (l:List PairD) (w:World) (ht:t.size≤100000) (hq:QSl w A n l) (hn:n≤100000) (hnc:n≤c) (hz:∀ x∈l,x.2.size≤3100) (hp1:(tplOf t).2.length≤30) (hp2:∀ p∈(tplOf t).2,p.name.size≤999) (hx:MaxLn w):
  Calls Tryz.prog 29 #[.string t,.slice A n c] w (RTxt (buildOf t l) w):=by
 have htp:=route_parseTemplate t w ht hx
 have hql:=hq.1
 by_cases h1:(tplOf t).1=0
 rotate_left
 ·have HQ:Hid (buildOf t l=((tplOf t).1,[])):=hId (by unfold buildOf;rw [if_pos h1])
  generalize tplOf t=q at *
  obtain⟨q1,q2⟩:=q
  simp only at h1 HQ
  have h1':((q1:Int) != 0)=true:=by simpa using h1
  clear h1 hq
  go_enter Tryz.func29,Tryz.ntmps29
  go_wp2_with fail
  refine htp.mono ?_
  clear htp
  rintro e w1 ⟨A,n,c,rfl,-,hm,-⟩
  have HM:=hId hm
  clear hm
  simp only
  go_wp2_with fail
  go_ret2
  exact RTxt.fault HQ.out HM.out
 have hQ:buildOf t l=if 30<l.length then(2,[]) else if twiceP l then(6,[]) else
   if (builtL (tplOf t).2 l []).1≠0 then((builtL (tplOf t).2 l []).1,[]) else joinP (builtL (tplOf t).2 l []).2:=by
  unfold buildOf;rw [if_neg (fun h=>h h1)]
 have HQ:=hId hQ
 clear hQ
 generalize tplOf t=q at *
 obtain⟨q1,ps⟩:=q
 simp only at h1 HQ
 subst h1
 by_cases h30:30<n
 ·have h30':(30:Int)<(n:Int):=by omega
  have HR:Hid (buildOf t l=(2,[])):=hId (by rw [HQ.out,if_pos (by omega)])
  clear hq
  go_enter Tryz.func29,Tryz.ntmps29
  go_wp2_with fail
  refine htp.mono ?_
  clear htp
  rintro e w1 ⟨Ap,np,cp,rfl,-,hm,-⟩
  have HM:=hId hm
  clear hm
  simp only
  go_wp2_with fail
  go_ret2
  exact RTxt.fault HR.out HM.out
 have h30':¬ (30:Int)<(n:Int):=by omega
 have HQ1:Hid (buildOf t l=if twiceP l then(6,[]) else if (builtL ps l []).1≠0 then((builtL ps l []).1,[]) else joinP (builtL ps l []).2):=hId (by rw [HQ.out,if_neg (by omega)])
 have HQS:=hId hq
 have HZ:=hId hz
 have HX:=hId hx
 have HLN:=hId hql
 clear hq hz hx hql HQ
 go_enter Tryz.func29,Tryz.ntmps29
 go_wp2_with fail
 refine htp.mono ?_
 clear htp
 rintro e w1 ⟨Ap,np,cp,rfl,hps,hm,hnp⟩
 have HM1:=hId hm
 have HPS:=hId hps
 clear hm hps
 simp only
 go_wp2_with fail
 go_loopw [30] (fun i wr=>∃ k:Nat,k≤n∧i= .int .i64 k∧Hid (onceP l k)∧Hid (New w1 wr)) (fun i _=>n -(intOf i).toNat)
 case atStart=>exact⟨0,Nat.zero_le _,rfl,hId rfl,hId (Mod.refl _ _)⟩
 case round=>
  rename World=>wr
  obtain⟨k,hk,rfl,HO,HM⟩:=hrel
  by_cases hlt:k<n
  ·have hkl:k<l.length:=by have:=HLN.out;omega
   have hnx:=HO.out.next hkl
   have hht:=fun v=>onceP.hit (v:=v) hkl
   have htk:∀ W,New w1 W→QSl W A k (l.take k):=fun W h=>QSl.take (HQS.out.new (HM1.out.trans h)) hk
   obtain⟨g,o,hA,htb,hc⟩:=(HQS.out.new (HM1.out.trans HM.out)).2 (by omega)
   have hgl:=htb.lt
   have c0:=hc k hkl 0 (by decide)
   have c1:=hc k hkl 1 (by decide)
   have HTK:=hId htk
   generalize l[k]=p at *
   generalize l.take k=before at *
   obtain⟨pn,pv⟩:=p
   simp only [pairEnc,Nat.add_zero]at c0 c1 hnx hht
   have HNX:=hId hnx
   have HHT:=hId hht
   clear hc htb hnx hht htk
   subst hA
   have hb1:(0:Int)≤k:=by omega
   have hb2:(k:Int)<n:=by omega
   have hb3:(k:Int)≤n:=by omega
   have hb4:(k:Int)≤c:=by omega
   have hbx:=Blk.new wr 52 #[.string pn,.string pv]
   have hmx:New wr (wr.alloc (.cells #[.string pn,.string pv] 52)):=(Mod.refl _ _).alloc _
   go_upto_region 9 with fail
   have HXB:=hId hbx
   have HM2:Hid (New w1 _):=hId (HM.out.trans hmx)
   clear hbx hmx HM c0 c1
   generalize wr.alloc (.cells #[.string pn,.string pv] 52)=w2 at *
   generalize wr.heap.size=xb at *
   have HSW:Hid (∀ W,New w2 W→W.cell? ⟨xb,0,none⟩=some (.string pn)∧W.cell? ⟨xb,1,none⟩=some (.string pv)∧xb<W.heap.size):=hId (fun W hW=>by
    have h:=HXB.out.new2 hW
    exact⟨(h.cell 0).trans rfl,(h.cell 1).trans rfl,h.lt⟩)
   have hd2:New w2 w2.drew:=(Mod.refl (fun _=>False) w2).drew
   refine wp_region_held_ord (fun W=>W.cell? ⟨xb,0,none⟩=some (.string pn)∧W.cell? ⟨xb,1,none⟩=some (.string pv)∧xb<W.heap.size) [5] [0,1,2,3,4,5,6,7,8,9] (by kernel_rfl) (by kernel_rfl) (fun _ _ d _ _ h=>by cases d <;> exact h) ?_ (fun hHeld=>?_)
   ·exact HSW.out _ hd2
   simp only [List.length_cons,List.length_nil,List.drop_succ_cons,List.drop_zero]
   refine heldO_take ?_ (by rfl) (by rfl) (by rfl) (fun w hSw=>?_) ?_
   rotate_left
   ·(try dsimp only at hSw);(try simp only [lgt,lgz,lgs]);go_simp;any_goals (with_reducible rfl)
   simp only [Act.put,lgt,lgz,lgs,lzt,lsz,lss]
   refine heldO_take ?_ (by rfl) (by rfl) (by rfl) (fun w hSw=>?_) ?_
   rotate_left
   ·(try dsimp only at hSw);(try simp only [lgt,lgz,lgs]);go_simp;any_goals (with_reducible rfl)
   simp only [Act.put,lgt,lgz,lgs,lzt,lsz,lss]
   refine heldO_take ?_ (by rfl) (by rfl) (by rfl) (fun w hSw=>?_) ?_
   rotate_left
   ·(try dsimp only at hSw);(try simp only [lgt,lgz,lgs]);go_simp;any_goals (with_reducible rfl)
   simp only [Act.put,lgt,lgz,lgs,lzt,lsz,lss]
   refine heldO_take ?_ (by rfl) (by rfl) (by rfl) (fun w hSw=>?_) ?_
   rotate_left
   ·(try dsimp only at hSw);(try simp only [lgt,lgz,lgs]);go_simp;any_goals (with_reducible rfl)
   simp only [Act.put,lgt,lgz,lgs,lzt,lsz,lss]
   refine heldO_take ?_ (by rfl) (by rfl) (by rfl) (fun w hSw=>?_) ?_
   rotate_left
   ·(try dsimp only at hSw);(try simp only [lgt,lgz,lgs]);go_simp;any_goals (with_reducible rfl)
   simp only [Act.put,lgt,lgz,lgs,lzt,lsz,lss]
   refine heldO_step (by rfl) (by rfl) (by rfl) (fun K hK=>?_)
   go_simp
   refine(route_param _ k c before pn w2.drew (HTK.out _ (HM2.out.trans hd2)) (by omega)).mono ?_
   rintro e w4 ⟨rfl,hm4⟩
   have m24:=hd2.trans hm4
   have HM4:Hid (New w1 w4):=hId (HM2.out.trans m24)
   cases hv:lookP before pn with
   | none=>
    simp only [Option.isSome_none]
    go_wp2_with fail
    refine hK.out _ _ (HSW.out _ m24) (fun hHeld=>?_)
    clear hK K hHeld m24 hm4 hd2
    try simp only [Act.put,lzt,lsz,lss]
    refine heldO_take ?_ (by rfl) (by rfl) (by rfl) (fun w hSw=>?_) ?_
    rotate_left
    ·(try dsimp only at hSw);(try simp only [lgt,lgz,lgs]);go_simp;any_goals (with_reducible rfl)
    simp only [Act.put,lgt,lgz,lgs,lzt,lsz,lss]
    refine heldO_take ?_ (by rfl) (by rfl) (by rfl) (fun w hSw=>?_) ?_
    rotate_left
    ·(try dsimp only at hSw);(try simp only [lgt,lgz,lgs]);go_simp;any_goals (with_reducible rfl)
    simp only [Act.put,lgt,lgz,lgs,lzt,lsz,lss]
    refine heldO_take ?_ (by rfl) (by rfl) (by rfl) (fun w hSw=>?_) ?_
    rotate_left
    ·(try dsimp only at hSw);(try simp only [lgt,lgz,lgs]);go_simp;any_goals (with_reducible rfl)
    simp only [Act.put,lgt,lgz,lgs,lzt,lsz,lss]
    refine heldO_take ?_ (by rfl) (by rfl) (by rfl) (fun w hSw=>?_) ?_
    rotate_left
    ·(try dsimp only at hSw);(try simp only [lgt,lgz,lgs]);go_simp;any_goals (with_reducible rfl)
    simp only [Act.put,lgt,lgz,lgs,lzt,lsz,lss]
    refine heldO_nil ?_
    have HO1:=hId (HNX.out hv)
    clear hv
    go_wp2_with fail
    all_goals exact⟨⟨k+1,by omega,by go_num,HO1,HM4⟩,by simp [intOf];omega⟩
   | some v=>
    have HR:Hid (buildOf t l=(6,[])):=hId (by rw [HQ1.out,if_pos (HHT.out v hv)])
    simp only [Option.isSome_some]
    go_wp2_with fail
    refine hK.out _ _ (HSW.out _ m24) (fun hHeld=>?_)
    clear hK K hHeld m24 hm4 hd2
    try simp only [Act.put,lzt,lsz,lss]
    refine heldO_take ?_ (by rfl) (by rfl) (by rfl) (fun w hSw=>?_) ?_
    rotate_left
    ·(try dsimp only at hSw);(try simp only [lgt,lgz,lgs]);go_simp;any_goals (with_reducible rfl)
    simp only [Act.put,lgt,lgz,lgs,lzt,lsz,lss]
    refine heldO_take ?_ (by rfl) (by rfl) (by rfl) (fun w hSw=>?_) ?_
    rotate_left
    ·(try dsimp only at hSw);(try simp only [lgt,lgz,lgs]);go_simp;any_goals (with_reducible rfl)
    simp only [Act.put,lgt,lgz,lgs,lzt,lsz,lss]
    refine heldO_take ?_ (by rfl) (by rfl) (by rfl) (fun w hSw=>?_) ?_
    rotate_left
    ·(try dsimp only at hSw);(try simp only [lgt,lgz,lgs]);go_simp;any_goals (with_reducible rfl)
    simp only [Act.put,lgt,lgz,lgs,lzt,lsz,lss]
    refine heldO_take ?_ (by rfl) (by rfl) (by rfl) (fun w hSw=>?_) ?_
    rotate_left
    ·(try dsimp only at hSw);(try simp only [lgt,lgz,lgs]);go_simp;any_goals (with_reducible rfl)
    simp only [Act.put,lgt,lgz,lgs,lzt,lsz,lss]
    refine heldO_nil ?_
    clear hv
    go_wp2_with fail
    go_ret2
    exact RTxt.fault HR.out (HM1.out.trans HM4.out)
  ·obtain rfl:n=k:=by omega
   have htw:twiceP l=false:=onceP.all (by have:=HO.out;rw [← HLN.out]at this;exact this)
   have HQ2:Hid (buildOf t l=if (builtL ps l []).1≠0 then((builtL ps l []).1,[]) else joinP (builtL ps l []).2):=hId (by rw [HQ1.out,htw];rfl)
   go_wp2_with fail
   have HB0:Hid (w1.heap.size≤wr.heap.size):=hId HM.out.size
   have HP1:=hId hp1
   have HP2:=hId hp2
   have HPL:=hId HPS.out.1
   have hnp30:np≤30:=by have:=HPS.out.1;(try simp only at this);(try simp only at hp1);omega
   have HMZ:=HM
   clear HM HO hp1 hp2 htw HQ1
   go_loopw [12,48] (fun o' i W=>∃(k n' c':Nat) (A':Option Addr) (out:List ByteArray),k≤np∧i= .int .i64 k∧o'= .slice A' n' c'∧n'≤100 * k∧Hid (wtL out≤3110 * k)∧Hid (Own W w1.heap.size 9 1 sEnc A' n' c' out)∧Hid (builtL ps l []=builtL (ps.drop k) l out)∧Hid (New w1 W)) (fun _ i _=>np -(intOf i).toNat)
   case atStart=>exact⟨0,0,0,none,[],Nat.zero_le _,rfl,rfl,Nat.zero_le _,hId (Nat.zero_le _),hId Own.nil,hId rfl,HMZ⟩
   case round=>
    clear HMZ
    rename World=>wi
    obtain⟨k,n',c',A',out,hk,rfl,rfl,hn',HWT,HO,HE,HM⟩:=hrel
    by_cases hlt:k<np
    ·have hkp:k<ps.length:=by have:=HPL.out;(try simp only at this);omega
     have hat:=buildL_at (params:=l) hkp out
     rw [← HE.out]at hat
     obtain⟨g,o,hA,htb,hc⟩:=(HPS.out.new HM.out).2 (by omega)
     have hgl:=htb.lt
     have c0:=hc k hkp 0 (by decide)
     have c1:=hc k hkp 1 (by decide)
     have hnm:=HP2.out _ (List.getElem_mem hkp)
     have hok:=fun h=>builtP_ok (l:=l) h hnm HZ.out
     have hbt:=fun W (h:New w W)=>route_built ps[k] A n c l W (HQS.out.new h) hn (fun x hx=>Nat.le_trans (HZ.out x hx) (by omega)) (HX.out.new h)
     have HBT:=hId hbt
     generalize ps[k]=p at *
     have HAT:=hId hat
     have HOK:=hId hok
     clear hc htb hat hbt hok hnm
     obtain⟨pk,pn⟩:=p
     simp only [PartD.enc,Nat.add_zero]at c0 c1
     subst hA
     have hb1:(0:Int)≤k:=by omega
     have hb2:(k:Int)<np:=by omega
     have hbx:=Blk.new wi 78 #[.int .i64 pk,.string pn]
     have hmx:New wi (wi.alloc (.cells #[.int .i64 pk,.string pn] 78)):=(Mod.refl _ _).alloc _
     go_upto_region 17 with fail
     have HXB:=hId hbx
     have HM2:Hid (New w1 _):=hId (HM.out.trans hmx)
     have HO2:=hId (HO.out.new hmx)
     clear hbx hmx HM HO c0 c1
     generalize wi.alloc (.cells #[.int .i64 pk,.string pn] 78)=w2 at *
     generalize wi.heap.size=xb at *
     have y0:=HXB.out.cell 0
     have y1:=HXB.out.cell 1
     have yl:=HXB.out.lt
     simp only [lqt,lqz,lqs]at y0 y1
     have hbt:=HBT.out w2 (HM1.out.trans HM2.out)
     unfold PartD.val at hbt
     simp only at hbt
     go_wp2_with fail
     refine hbt.mono ?_
     clear hbt y0 y1 yl
     rintro e w3 ⟨A3,n3,c3,rfl,hs3,hm3,hc3⟩
     have HM3:Hid (New w1 w3):=hId (HM2.out.trans hm3)
     have HO3:=hId (HO2.out.new hm3)
     have HS3:=hId hs3
     clear hm3 hs3 HM2 HO2 HBT
     generalize builtP ⟨pk,pn⟩ l=q at *
     obtain⟨q1,bs⟩:=q
     simp only at HS3 HAT HOK ⊢
     by_cases hq1:q1=0
     rotate_left
     ·have hq1':((q1:Int) != 0)=true:=by simpa using hq1
      have HBL:Hid (builtL ps l []=(q1,[])):=hId (by rw [HAT.out,if_pos hq1])
      have HR:Hid (buildOf t l=(q1,[])):=hId (by rw [HQ2.out,HBL.out,if_pos hq1])
      clear hq1
      go_wp2_with fail
      go_ret2
      exact RTxt.fault HR.out (HM1.out.trans HM3.out)
     ·subst hq1
      obtain⟨k1,k2⟩:=HOK.out rfl
      have HE1:Hid (builtL ps l []=builtL (ps.drop (k+1)) l (out++bs)):=hId (by rw [HAT.out,if_neg (by simp)])
      have HWT1:Hid (wtL (out++bs)≤3110 * (k+1)):=hId (by rw [wtL_append];have:=HWT.out;omega)
      have hbl:bs.length=n3:=HS3.out.1
      have hn30:n3≤100:=by omega
      have HOF:Hid (∀ g',blkOf A'=some g'→w1.heap.size≤g'):=hId (fun g' e=>HO3.out.farP g' e)
      clear HOK HAT HWT k1 k2
      rcases Nat.eq_zero_or_pos n3 with h0 | h0
      ·subst h0
       obtain rfl:bs= []:=List.eq_nil_of_length_eq_zero hbl
       obtain⟨i9,z9,hi9,_⟩:=einfo_str
       have hap:=fun ty=>append_empty (P:=Tryz.prog) Tryz.underlying26 hi9 A' A3 n' c' c3 HO3.out.ncap ty w3
       have HO4:Hid (Own w3 w1.heap.size 9 1 sEnc A' n' c' (out++ [])):=hId (by rw [List.append_nil];exact HO3.out)
       go_wp2_with (at_builtin;refine wpList_append_by rfl _ _ 26 rfl rfl rfl hap ?_)
       go_roundw
       case rel=>exact⟨k+1,n',c',A',_,by omega,by go_num,rfl,by omega,HWT1,HO4,HE1,HM3⟩
       case measure=>simp [intOf];omega
      ·obtain⟨g3,o3,hA3,-,-⟩:=HS3.out.2 h0
       subst hA3
       have hsz3:w1.heap.size≤w3.heap.size:=HM3.out.size
       have hs3:=HS3.out
       go_wp2_with (at_builtin;refine wpList_pushAll rfl _ _ _ rfl 16 Tryz.underlying26 einfo_str rfl HO3.out bs g3 o3 n3 c3 rfl hs3 h0 (fun y _ j hj=>sEnc_one _ j hj) (by omega) (by omega) (by omega) ?_;intro g8 cap8 w8 own8 hm8 hat8 hlt8)
       have HO8:=hId own8
       have HM8:Hid (New w1 w8):=hId (HM3.out.step hm8 (fun i hi e=>by have:=HOF.out i e;omega))
       clear own8 hm8
       go_roundw
       case rel=>exact⟨k+1,n'+n3,cap8,_,_,by omega,by go_num,rfl,by omega,HWT1,HO8,HE1,HM8⟩
       case measure=>simp [intOf];omega
    ·obtain rfl:k=np:=by omega
     have hend:builtL ps l []=(0,out):=by
      rw [HE.out,List.drop_eq_nil_of_le (by have:=HPL.out;(try simp only at this);omega),builtL]
     have HR:Hid (buildOf t l=joinP out):=hId (by rw [HQ2.out,hend,if_neg (by simp)])
     have hwt:=HWT.out
     have hft:PFit out:=⟨by have:=pathT_wt out;omega,fun x hx=>by have:=wtL_mem hx;omega⟩
     have hjp:=msg_joinPath A' n' c' out wi HO.out.sl hft
     have HJP:=hId hjp
     clear hjp hft hwt hend
     go_wp2_with fail
     refine HJP.out.mono ?_
     clear HJP
     rintro e w5 ⟨rfl,hm5⟩
     have HM5:Hid (New w w5):=hId (HM1.out.trans (HM.out.trans hm5))
     clear hm5
     generalize joinP out=q at *
     obtain⟨q1,q2⟩:=q
     simp only
     go_wp2_with fail
     go_ret2
     exact⟨by rw [HR.out];rfl,HM5.out⟩
theorem trimSuffix_length (l s:List UInt8):(Lib.trimSuffix l s).length≤l.length:=by
 unfold Lib.trimSuffix
 split
 ·rw [List.length_take];omega
 ·exact Nat.le_refl _
theorem partOf_name (x:ByteArray) (before:List PartD) (last:Bool):(partOf x before last).2.name.size≤x.size:=by
 have hxl:x.data.toList.length=x.size:=rfl
 have hA:∀ l:List UInt8,(⟨l.toArray⟩:ByteArray).size=l.length:=fun l=>by show(List.toArray l).size=_;simp
 unfold partOf
 split
 ·split
  ·exact Nat.zero_le _
  ·simp only
   split
   ·exact Nat.zero_le _
   ·split
    ·exact Nat.zero_le _
    ·split
     ·exact Nat.zero_le _
     ·show(⟨(Lib.trimSuffix (Lib.trimSuffix (x.data.toList.drop 1) [125]) [42]).toArray⟩:ByteArray).size≤_
      rw [hA]
      have h1:=trimSuffix_length (Lib.trimSuffix (x.data.toList.drop 1) [125]) [42]
      have h2:=trimSuffix_length (x.data.toList.drop 1) [125]
      rw [List.length_drop]at h2
      omega
 ·split
  ·exact Nat.zero_le _
  ·split
   ·exact Nat.zero_le _
   ·rename_i n hn
    split
    ·exact Nat.zero_le _
    ·show(⟨n.toArray⟩:ByteArray).size≤_
     rw [hA]
     have:=decL_length _ _ _ (Nat.le_refl _) hn
     omega
theorem partsOf_names {Z:Nat}:∀(xs:List ByteArray) (acc:List PartD),(∀ x∈xs,x.size≤Z)→(∀ p∈acc,p.name.size≤Z)→∀ p∈(partsOf xs acc).2,p.name.size≤Z
 | [],acc,_,h=>by rw [partsOf];exact h
 | x::xs,acc,hx,h=>by
  rw [partsOf]
  split
  ·simp
  ·refine partsOf_names xs _ (fun y hy=>hx y (List.mem_cons_of_mem x hy)) (fun p hp=>?_)
   rcases List.mem_append.1 hp with h' | h'
   ·exact h p h'
   ·simp at h'
    subst h'
    exact Nat.le_trans (partOf_name _ _ _) (hx x (by simp))
theorem tplOf_small (t:ByteArray):(tplOf t).2.length≤30∧∀ p∈(tplOf t).2,p.name.size≤999:=by
 unfold tplOf
 split
 ·simp
 ·rename_i h1
  split
  ·simp
  ·rename_i h2
   unfold templateOf
   split
   ·simp
   ·split
    ·simp
    ·rename_i h3
     refine⟨by simp only;omega,?_⟩
     refine partsOf_names _ [] (fun x hx=>?_) (by simp)
     have h4:=pieces_le hx
     have h5:(t.extract 1 t.size).size≤999:=by rw [ByteArray.size_extract];omega
     omega
set_option maxHeartbeats 400000 in
theorem route_BuildT (t:ByteArray) (A:Option Addr) (n c:Nat) (l:List PairD) (w:World) (ht:t.size≤100000) (hq:QSl w A n l) (hn:n≤100000) (hnc:n≤c) (hz:∀ x∈l,x.2.size≤3100) (hx:MaxLn w):
  Calls Tryz.prog 29 #[.string t,.slice A n c] w (RTxt (buildOf t l) w):=
 route_Build t A n c l w ht hq hn hnc hz (tplOf_small t).1 (tplOf_small t).2 hx
theorem rankN_zero (hosts:List ByteArray) (host:ByteArray):decide (rankN hosts host=0)= !(rankH hosts host).2.2:=by
 unfold rankN rankH
 by_cases h1:hosts= []
 ·rw [if_pos h1,if_pos h1];rfl
 ·rw [if_neg h1,if_neg h1]
  by_cases h2:hosts.any (exactH host)=true
  ·rw [if_pos h2,if_pos h2];rfl
  ·rw [if_neg h2,if_neg h2]
   by_cases h3:longH host hosts 0=0
   ·rw [if_pos h3,if_pos h3];rfl
   ·rw [if_neg h3,if_neg h3]
    simp
theorem hitOf_ref (r:RtD) (q:ReqL):hitOf r q=if (matchOf r.path q.path).2.1&& !decide (rankN r.hosts q.host=0)&&meetsF r.needs q.heads&&methOk r q.method then some (matchOf r.path q.path).1 else none:=by
 rw [rankN_zero]
 unfold hitOf butOf
 generalize (matchOf r.path q.path).1=l
 generalize (matchOf r.path q.path).2.1=a
 generalize (rankH r.hosts q.host).2.2=b
 generalize meetsF r.needs q.heads=c
 generalize methOk r q.method=d
 cases a <;> cases b <;> cases c <;> cases d <;> rfl
theorem matchL_small:∀(ps:List PartD) (segs:List ByteArray) (out l:List PairD),matchL ps segs out=some l→l.length≤out.length+ps.length
 | [],segs,out,l,h=>by
  unfold matchL at h
  split at h
  ·injection h with h;rw [← h];simp
  ·cases h
 | p::ps,segs,out,l,h=>by
  unfold matchL at h
  split at h
  ·injection h with h;rw [← h];simp
  ·split at h
   ·cases h
   ·split at h
    ·cases h
    ·have:=matchL_small ps _ _ l h
     split at this
     ·simp only [List.length_append,List.length_cons,List.length_nil]at this ⊢
      omega
     ·simp only [List.length_cons]
      omega
theorem matchOf_small (t pa:ByteArray):(matchOf t pa).1.length≤30:=by
 have h0:=(tplOf_small t).1
 unfold matchOf
 by_cases h1:(tplOf t).1≠0
 ·rw [if_pos h1];exact Nat.zero_le _
 rw [if_neg h1]
 by_cases h2:(segsOf pa).1≠0
 ·rw [if_pos h2];exact Nat.zero_le _
 rw [if_neg h2]
 cases hm:matchL (tplOf t).2 (segsOf pa).2 []with
 | none=>exact Nat.zero_le _
 | some l=>
  have:=matchL_small _ _ _ l hm
  simp only [List.length_nil]at this ⊢
  omega
theorem butOf_some {r:RtD} {q:ReqL} {l:List PairD} (h:butOf r q=some l):l=(matchOf r.path q.path).1:=by
 unfold butOf at h
 split at h
 ·injection h with h;exact h.symm
 ·cases h
theorem hitOf_some {r:RtD} {q:ReqL} {l:List PairD} (h:hitOf r q=some l):l.length≤30∧∀ p∈l,p.2.size≤3100:=by
 unfold hitOf at h
 split at h
 ·have:=butOf_some h
  subst this
  exact⟨matchOf_small _ _,match_val⟩
 ·cases h
structure TxB (hd:RtD→List UInt8) (nd:ByteArray×ByteArray→List UInt8):Prop where
 hd:∀ r,RtShort r→(hd r).length≤400020
 nd:∀ p:ByteArray×ByteArray,p.1.size≤200000∧p.2.size≤200000→(nd p).length≤400020
theorem RtAt.mod {S:Nat→Prop} {w w':World} {x:RA} {r:RtD} (h:RtAt w x r) (hm:Mod S w w') (hs:∀ g,TB w g 9∨TB w g 52∨TB w g 29→¬ S g):RtAt w' x r:=
 ⟨h.key,h.path,h.dest,h.hosts.mod hm (fun g e=>hs g (.inl e)),h.methods.mod hm (fun g e=>hs g (.inl e)),h.needs.mod hm (fun g e=>hs g (.inr (.inl e))),h.hcap,h.mcap,h.ncap⟩
/-- routes as small as the makers' -/
structure RtMini (r:RtD):Prop where
 key:r.key.size≤10
 path:r.path.size≤300
 dest:r.dest.size≤300
 hosts:r.hosts.length≤3∧∀ h∈r.hosts,h.size≤30
 methods:r.methods.length≤3∧∀ h∈r.methods,h.size≤30
 needs:r.needs.length≤3∧∀ p∈r.needs,p.1.size≤30∧p.2.size≤30
theorem RtMini.short {r:RtD} (h:RtMini r):RtShort r:=
 ⟨by have:=h.key;omega,by have:=h.path;omega,by have:=h.dest;omega,⟨by have:=h.hosts.1;omega,fun x hx=>by have:=h.hosts.2 x hx;omega⟩,⟨by have:=h.methods.1;omega,fun x hx=>by have:=h.methods.2 x hx;omega⟩,⟨by have:=h.needs.1;omega,fun x hx=>by have:=h.needs.2 x hx;omega⟩⟩
theorem Blk.keepA {w:World} {g:Nat} {t:TypeId} {cs:Array Value} (h:Blk w g t cs) (o:Obj):Blk (w.alloc o) g t cs:=h.mod ((Mod.refl (fun _=>False) _).alloc o) (fun e=>e)
/-- a literal's blocks: rows, and the row of rows behind them -/
structure Lit4 (w W:World) (t t':TypeId) (c0 c1 c2 c3:Array Value):Prop where
 b0:Blk W w.heap.size t c0
 b1:Blk W (w.heap.size+1) t c1
 b2:Blk W (w.heap.size+1+1) t c2
 b3:Blk W (w.heap.size+1+1+1) t' c3
 new:New w W
 size:W.heap.size=w.heap.size+4
theorem lit4 (w:World) (t t':TypeId) (c0 c1 c2 c3:Array Value):Lit4 w ((((w.alloc (.cells c0 t)).alloc (.cells c1 t)).alloc (.cells c2 t)).alloc (.cells c3 t')) t t' c0 c1 c2 c3:=
 ⟨(((Blk.new w t c0).keepA _).keepA _).keepA _,((Blk.new' t c1 (by simp)).keepA _).keepA _,(Blk.new' t c2 (by simp)).keepA _,Blk.new' t' c3 (by simp),((((Mod.refl _ _).alloc _).alloc _).alloc _).alloc _,by simp⟩
structure Lit5 (w W:World) (t t':TypeId) (c0 c1 c2 c3 c4:Array Value):Prop where
 b0:Blk W w.heap.size t c0
 b1:Blk W (w.heap.size+1) t c1
 b2:Blk W (w.heap.size+1+1) t c2
 b3:Blk W (w.heap.size+1+1+1) t c3
 b4:Blk W (w.heap.size+1+1+1+1) t' c4
 new:New w W
 size:W.heap.size=w.heap.size+5
theorem lit5 (w:World) (t t':TypeId) (c0 c1 c2 c3 c4:Array Value):Lit5 w (((((w.alloc (.cells c0 t)).alloc (.cells c1 t)).alloc (.cells c2 t)).alloc (.cells c3 t)).alloc (.cells c4 t')) t t' c0 c1 c2 c3 c4:=
 ⟨((((Blk.new w t c0).keepA _).keepA _).keepA _).keepA _,(((Blk.new' t c1 (by simp)).keepA _).keepA _).keepA _,((Blk.new' t c2 (by simp)).keepA _).keepA _,(Blk.new' t c3 (by simp)).keepA _,Blk.new' t' c4 (by simp),(((((Mod.refl _ _).alloc _).alloc _).alloc _).alloc _).alloc _,by simp⟩
structure Lit7 (w W:World) (t t':TypeId) (c0 c1 c2 c3 c4 c5 c6:Array Value):Prop where
 b0:Blk W w.heap.size t c0
 b1:Blk W (w.heap.size+1) t c1
 b2:Blk W (w.heap.size+1+1) t c2
 b3:Blk W (w.heap.size+1+1+1) t c3
 b4:Blk W (w.heap.size+1+1+1+1) t c4
 b5:Blk W (w.heap.size+1+1+1+1+1) t c5
 b6:Blk W (w.heap.size+1+1+1+1+1+1) t' c6
 new:New w W
 size:W.heap.size=w.heap.size+7
theorem lit7 (w:World) (t t':TypeId) (c0 c1 c2 c3 c4 c5 c6:Array Value):Lit7 w (((((((w.alloc (.cells c0 t)).alloc (.cells c1 t)).alloc (.cells c2 t)).alloc (.cells c3 t)).alloc (.cells c4 t)).alloc (.cells c5 t)).alloc (.cells c6 t')) t t' c0 c1 c2 c3 c4 c5 c6:=
 ⟨((((((Blk.new w t c0).keepA _).keepA _).keepA _).keepA _).keepA _).keepA _,(((((Blk.new' t c1 (by simp)).keepA _).keepA _).keepA _).keepA _).keepA _,((((Blk.new' t c2 (by simp)).keepA _).keepA _).keepA _).keepA _,(((Blk.new' t c3 (by simp)).keepA _).keepA _).keepA _,((Blk.new' t c4 (by simp)).keepA _).keepA _,(Blk.new' t c5 (by simp)).keepA _,Blk.new' t' c6 (by simp),(((((((Mod.refl _ _).alloc _).alloc _).alloc _).alloc _).alloc _).alloc _).alloc _,by simp⟩
/-- a block of strings reads as a row of strings -/
theorem strs_row {w:World} {g:Nat} {ws:List ByteArray} (h:Blk w g 9 (ws.map Value.string).toArray):SSl1 w (some ⟨g,0,none⟩) ws.length ws:=
 Sl.of_blk h rfl (fun i hi j hj=>by
  obtain rfl:j=0:=by omega
  simp [sEnc,hi])
theorem pairs_row {w:World} {g:Nat} {ps:List PairD} (h:Blk w g 52 (ps.flatMap (encL 2 pairEnc)).toArray):QSl w (some ⟨g,0,none⟩) ps.length ps:=
 Sl.of_blk h rfl (fun i hi j hj=>by
  have:=flat_get 2 pairEnc ps i hi j hj
  simpa using this)
/-- a route in block xb that is being filled -/
structure RtIn (w:World) (xb:Nat) (x:RA) (r:RtD):Prop where
 blk:Blk w xb 29 #[.string x.key,.slice x.ha x.hn x.hc,.string x.path,.slice x.ma x.mn x.mc,.slice x.na x.nn x.nc,.string x.dest]
 at':RtAt w x r
 mini:RtMini r
theorem SInv.tbS {b k:Nat} {w:World} (h:SInv b w k):TB w b 25:=by
 obtain⟨A,l,c,q,z,hb,_⟩:=h
 exact Blk.tb hb
theorem RtAt.stream {b k k':Nat} {w w':World} {x:RA} {r:RtD} (h:RtAt w x r) (hs:SInv b w k) (hm:SStep b w w' k'):RtAt w' x r:=
 h.mod hm.only (fun g hg e=>by
  rcases hg with hg | hg | hg
  ·exact hg.ne hs.tbS (by decide) e
  ·exact hg.ne hs.tbS (by decide) e
  ·exact hg.ne hs.tbS (by decide) e)
theorem RtIn.stream {b k k':Nat} {w w':World} {xb:Nat} {x:RA} {r:RtD} (h:RtIn w xb x r) (hs:SInv b w k) (hm:SStep b w w' k'):RtIn w' xb x r:=
 ⟨h.blk.mod hm.only (h.blk.tb.ne hs.tbS (by decide)),h.at'.stream hs hm,h.mini⟩
theorem RtIn.new {w w':World} {xb:Nat} {x:RA} {r:RtD} (h:RtIn w xb x r) (hm:New w w'):RtIn w' xb x r:=
 ⟨h.blk.mod hm (fun e=>e),h.at'.new hm,h.mini⟩
theorem RtIn.upd {w:World} {xb:Nat} {x:RA} {r:RtD} (h:RtIn w xb x r) (j:Nat) (v:Value) {x':RA} {r':RtD} (ha:RtAt w x' r') (hr:RtMini r')
  (hc:(#[.string x.key,.slice x.ha x.hn x.hc,.string x.path,.slice x.ma x.mn x.mc,.slice x.na x.nn x.nc,.string x.dest]:Array Value).setIfInBounds j v= #[.string x'.key,.slice x'.ha x'.hn x'.hc,.string x'.path,.slice x'.ma x'.mn x'.mc,.slice x'.na x'.nn x'.nc,.string x'.dest]):RtIn (w.setCell ⟨xb,j,none⟩ v) xb x' r':=by
 have hs:Mod (fun k=>k=xb) w (w.setCell ⟨xb,j,none⟩ v):=Mod.setCell (S:=fun k=>k=xb) (p:=⟨xb,j,none⟩) (Mod.refl _ _) (.inl rfl) _
 have ht:=h.blk.tb
 refine⟨by rw [← hc];exact h.blk.set j v,?_,hr⟩
 refine⟨ha.key,ha.path,ha.dest,ha.hosts.mod hs (fun g hg e=>hg.ne ht (by decide) e),ha.methods.mod hs (fun g hg e=>hg.ne ht (by decide) e),ha.needs.mod hs (fun g hg e=>hg.ne ht (by decide) e),ha.hcap,ha.mcap,ha.ncap⟩
section
variable {w:World} {xb:Nat} {x:RA} {r:RtD}
theorem RtIn.hosts (h:RtIn w xb x r) {A:Option Addr} {n c:Nat} {l:List ByteArray} (ha:SSl1 w A n l) (hc:n≤c) (hl:l.length≤3∧∀ s∈l,s.size≤30):RtIn (w.setCell ⟨xb,1,none⟩ (.slice A n c)) xb {x with ha:=A,hn:=n,hc:=c} {r with hosts:=l}:=
 h.upd 1 _ ⟨h.at'.key,h.at'.path,h.at'.dest,ha,h.at'.methods,h.at'.needs,hc,h.at'.mcap,h.at'.ncap⟩ ⟨h.mini.key,h.mini.path,h.mini.dest,hl,h.mini.methods,h.mini.needs⟩ rfl
theorem RtIn.methods (h:RtIn w xb x r) {A:Option Addr} {n c:Nat} {l:List ByteArray} (ha:SSl1 w A n l) (hc:n≤c) (hl:l.length≤3∧∀ s∈l,s.size≤30):RtIn (w.setCell ⟨xb,3,none⟩ (.slice A n c)) xb {x with ma:=A,mn:=n,mc:=c} {r with methods:=l}:=
 h.upd 3 _ ⟨h.at'.key,h.at'.path,h.at'.dest,h.at'.hosts,ha,h.at'.needs,h.at'.hcap,hc,h.at'.ncap⟩ ⟨h.mini.key,h.mini.path,h.mini.dest,h.mini.hosts,hl,h.mini.needs⟩ rfl
theorem RtIn.needs (h:RtIn w xb x r) {A:Option Addr} {n c:Nat} {l:List PairD} (ha:QSl w A n l) (hc:n≤c) (hl:l.length≤3∧∀ p∈l,p.1.size≤30∧p.2.size≤30):RtIn (w.setCell ⟨xb,4,none⟩ (.slice A n c)) xb {x with na:=A,nn:=n,nc:=c} {r with needs:=l}:=
 h.upd 4 _ ⟨h.at'.key,h.at'.path,h.at'.dest,h.at'.hosts,h.at'.methods,ha,h.at'.hcap,h.at'.mcap,hc⟩ ⟨h.mini.key,h.mini.path,h.mini.dest,h.mini.hosts,h.mini.methods,hl⟩ rfl
theorem RtIn.key (h:RtIn w xb x r) {s:ByteArray} (hs:s.size≤10):RtIn (w.setCell ⟨xb,0,none⟩ (.string s)) xb {x with key:=s} {r with key:=s}:=
 h.upd 0 _ ⟨rfl,h.at'.path,h.at'.dest,h.at'.hosts,h.at'.methods,h.at'.needs,h.at'.hcap,h.at'.mcap,h.at'.ncap⟩ ⟨hs,h.mini.path,h.mini.dest,h.mini.hosts,h.mini.methods,h.mini.needs⟩ rfl
theorem RtIn.path (h:RtIn w xb x r) {s:ByteArray} (hs:s.size≤300):RtIn (w.setCell ⟨xb,2,none⟩ (.string s)) xb {x with path:=s} {r with path:=s}:=
 h.upd 2 _ ⟨h.at'.key,rfl,h.at'.dest,h.at'.hosts,h.at'.methods,h.at'.needs,h.at'.hcap,h.at'.mcap,h.at'.ncap⟩ ⟨h.mini.key,hs,h.mini.dest,h.mini.hosts,h.mini.methods,h.mini.needs⟩ rfl
theorem RtIn.dest (h:RtIn w xb x r) {s:ByteArray} (hs:s.size≤300):RtIn (w.setCell ⟨xb,5,none⟩ (.string s)) xb {x with dest:=s} {r with dest:=s}:=
 h.upd 5 _ ⟨h.at'.key,h.at'.path,rfl,h.at'.hosts,h.at'.methods,h.at'.needs,h.at'.hcap,h.at'.mcap,h.at'.ncap⟩ ⟨h.mini.key,h.mini.path,hs,h.mini.hosts,h.mini.methods,h.mini.needs⟩ rfl
end
/-- the library's variable on searching, while the stream stands elsewhere -/
def MaxB (b:Nat) (w:World):Prop:=MaxLn w∧0≠b
theorem MaxB.of {b:Nat} {w0 w:World} (h0:MaxLn w0) (hb:w0.heap.size≤b) (h:MaxLn w):MaxB b w:=⟨h,fun e=>by
 obtain⟨m,hc⟩:=h0
 have hlt:0<w0.heap.size:=by
  rcases Nat.lt_or_ge 0 w0.heap.size with hlt | hge
  ·exact hlt
  ·simp [World.cell?,Array.getElem?_eq_none hge]at hc
 omega⟩
theorem MaxLn.lt {w:World} (h:MaxLn w):0<w.heap.size:=by
 obtain⟨m,hc⟩:=h
 rcases Nat.lt_or_ge 0 w.heap.size with hlt | hge
 ·exact hlt
 ·simp [World.cell?,Array.getElem?_eq_none hge]at hc
theorem MaxB.stream {b k:Nat} {w w':World} (h:MaxB b w) (hs:SStep b w w' k):MaxB b w':=by
 refine⟨?_,h.2⟩
 have hl:=h.1.lt
 obtain⟨m,hc⟩:=h.1
 exact⟨m,(hs.only.cell (p:=⟨0,0,none⟩) hl h.2).trans hc⟩
theorem MaxB.mod {S:Nat→Prop} {b:Nat} {w w':World} (h:MaxB b w) (hm:Mod S w w') (hS:¬ S 0):MaxB b w':=by
 refine⟨?_,h.2⟩
 have hl:=h.1.lt
 obtain⟨m,hc⟩:=h.1
 exact⟨m,(hm.cell (p:=⟨0,0,none⟩) hl hS).trans hc⟩
def RRt (b:Nat) (w:World) (k:Nat) (e:Ending) (w':World):Prop:=∃ x r,e= .returned (RA.val x)∧RtAt w' x r∧RtMini r∧SStep b w w' k
end Go.Proofs.YtnlloaimplgjnaaGreatDoor
