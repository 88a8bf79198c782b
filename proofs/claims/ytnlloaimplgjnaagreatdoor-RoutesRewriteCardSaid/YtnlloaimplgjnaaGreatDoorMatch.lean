/- The parameters that a template's parts take of segments (route.match). Conditions: texts of modest size. -/
import Derived.Test.YtnlloaimplgjnaaGreatDoorJoinPGrp
import Derived.Test.YtnlloaimplgjnaaGreatDoorPairGrp
import Derived.Test.YtnlloaimplgjnaaGreatDoorHeldGrp
namespace Go.Proofs.YtnlloaimplgjnaaGreatDoor
open Go.RowKit
set_option linter.unusedVariables false
set_option linter.unusedSimpArgs false
/-- the parameters, and whether the segments fit -/
def RMatch (q:Option (List PairD)) (w:World) (e:Ending) (w':World):Prop:=∃ A n c,e= .returned (.tuple #[.slice A n c,.bool q.isSome])∧(∀ l,q=some l→QSl w' A n l)∧New w w'∧n≤c
theorem RMatch.none {q:Option (List PairD)} {w w':World} {A:Option Addr} {n c:Nat} (h:q=none) (hm:New w w') (hc:n≤c):RMatch q w (.returned (.tuple #[.slice A n c,.bool false])) w':=
 ⟨A,n,c,by rw [h];rfl,by rw [h];rintro l ⟨⟩,hm,hc⟩
theorem RMatch.some {q:Option (List PairD)} {w w':World} {A:Option Addr} {n c:Nat} {l:List PairD} (h:q=some l) (hs:QSl w' A n l) (hm:New w w') (hc:n≤c):RMatch q w (.returned (.tuple #[.slice A n c,.bool true])) w':=
 ⟨A,n,c,by rw [h];rfl,by rw [h];rintro l' ⟨⟩;exact hs,hm,hc⟩
theorem match_at {ps:List PartD} {segs:List ByteArray} {k:Nat} (h:k<ps.length) (out:List PairD):
  matchL (ps.drop k) (segs.drop k) out=if ps[k].kind=3 then some (out++ [(ps[k].name,⟨(pathT (segs.drop k)).toArray⟩)]) else
   if hk:k<segs.length then(if (ps[k].kind=1∧segs[k]≠ps[k].name)∨(ps[k].kind=2∧segs[k]=emptyB) then none else matchL (ps.drop (k+1)) (segs.drop (k+1)) (if ps[k].kind=2 then out++ [(ps[k].name,segs[k])] else out)) else none:=by
 by_cases hk:k<segs.length
 ·rw [dif_pos hk,List.drop_eq_getElem_cons h,List.drop_eq_getElem_cons hk,matchL]
 ·have e2:segs.drop k= []:=List.drop_eq_nil_of_le (by omega)
  rw [dif_neg hk,List.drop_eq_getElem_cons h,e2,matchL]
theorem match_end {ps:List PartD} {segs:List ByteArray} {k:Nat} (h:ps.length≤k) (h2:k≤segs.length) (out:List PairD):matchL (ps.drop k) (segs.drop k) out=if k=segs.length then some out else none:=by
 rw [List.drop_eq_nil_of_le h,matchL]
 by_cases hk:k=segs.length
 ·rw [if_pos hk,if_pos (List.drop_eq_nil_of_le (by omega))]
 ·rw [if_neg hk,if_neg (fun e=>by have:=List.drop_eq_nil_iff.1 e;omega)]
theorem PFit.drop {l:List ByteArray} (h:PFit l) (k:Nat):PFit (l.drop k):=by
 refine⟨?_,fun x hx=>h.x x (List.mem_of_mem_drop hx)⟩
 have:pathT l=pathT (l.take k)++pathT (l.drop k):=by
  unfold pathT
  rw [← List.flatMap_append,List.take_append_drop]
 have h1:=h.t
 rw [this,List.length_append]at h1
 omega
theorem SSl.drop {w:World} {g o n:Nat} {l:List ByteArray} (h:SSl w (some ⟨g,o,none⟩) n l) (k:Nat) (hk:k≤n):SSl w (some ⟨g,o+k,none⟩) (n -k) (l.drop k):=by
 have hl:=h.1
 refine⟨by rw [List.length_drop];omega,fun h0=>?_⟩
 obtain⟨g',o',hA,ht,hc⟩:=h.2 (by omega)
 injection hA with hA
 injection hA with q1 q2
 subst q1 q2
 refine⟨g,o+k,rfl,ht,fun i hi j hj=>?_⟩
 have hi2:k+i<l.length:=by rw [List.length_drop]at hi;omega
 have:=hc (k+i) hi2 j hj
 rw [List.getElem_drop]
 rw [← this]
 congr 2
 omega
theorem SSl.dropC {w:World} {g o n c:Nat} {l:List ByteArray} (h:SSl w (some ⟨g,o,none⟩) n l) {k:Nat} (hk:k≤n) (hc:n≤c):SSl w (if c=k then some ⟨g,o,none⟩ else some ⟨g,o+k,none⟩) (n -k) (l.drop k):=by
 by_cases e:c=k
 ·have hl:=h.1
  refine⟨by rw [List.length_drop];omega,fun h0=>by omega⟩
 ·rw [if_neg e]
  exact h.drop k hk
theorem Own.belowM {α:Type} {w:World} {B:Nat} {t:TypeId} {sz:Nat} {enc:α→Nat→Value} {A:Option Addr} {n c:Nat} {xs:List α} (h:Own w B t sz enc A n c xs) (g:Nat) (e:blkOf A=some g):g<w.heap.size:=by
 rcases h.blk with⟨rfl,_,_⟩ |⟨g',rfl,_,htb⟩
 ·cases e
 ·injection e with e;subst e;exact htb.lt
set_option maxRecDepth 100000 in
set_option maxHeartbeats 1500000 in
theorem route_match (Ap:Option Addr) (np cp:Nat) (ps:List PartD) (As:Option Addr) (ns cs:Nat) (segs:List ByteArray) (w:World) (hp:PSl w Ap np ps) (hs:SSl w As ns segs) (hn:np≤100000) (hf:PFit segs) (hcs:ns≤cs) (h0:0<ns):
  Calls Tryz.prog 31 #[.slice Ap np cp,.slice As ns cs] w (RMatch (matchL ps segs []) w):=by
 have hsl:=hs.1
 have hpl:=hp.1
 obtain⟨gs,os,rfl,htg,-⟩:=hs.2 h0
 have HSB:=hId htg.lt
 clear htg
 have HP:=hId hp
 have HS:=hId hs
 have HF:=hId hf
 have HPL:=hId hpl
 have HSL:=hId hsl
 have hns:ns≤300000:=by have h1:=pathT_ge segs;have h2:=hf.t;omega
 clear hp hs hf hpl hsl
 go_enter Tryz.func31,Tryz.ntmps31
 go_wp2_with fail
 go_loopw [6,11] (fun o' i wr=>∃(k n' c':Nat) (A':Option Addr) (out:List PairD),k≤np∧k≤ns∧i= .int .i64 k∧o'= .slice A' n' c'∧n'≤k∧Hid (Own wr w.heap.size 52 2 pairEnc A' n' c' out)∧Hid (matchL ps segs []=matchL (ps.drop k) (segs.drop k) out)∧Hid (New w wr)) (fun _ i _=>np -(intOf i).toNat)
 case atStart=>exact⟨0,0,0,none,[],Nat.zero_le _,Nat.zero_le _,rfl,rfl,Nat.le_refl _,hId Own.nil,hId rfl,hId (Mod.refl _ _)⟩
 case round=>
  rename World=>wr
  obtain⟨k,n',c',A',out,hk,hks,rfl,rfl,hnk,HO,HE,HM⟩:=hrel
  by_cases hlt:k<np
  ·have hkp:k<ps.length:=by have:=HPL.out;omega
   have HOL:Hid (∀ g',blkOf A'=some g'→g'<wr.heap.size):=hId (fun g' e=>HO.out.belowM g' e)
   have hat:=match_at (segs:=segs) hkp out
   rw [← HE.out]at hat
   obtain⟨g,o,hA,htb,hc⟩:=(HP.out.new HM.out).2 (by omega)
   have hgl:=htb.lt
   have c0:=hc k hkp 0 (by decide)
   have c1:=hc k hkp 1 (by decide)
   generalize ps[k]=p at *
   obtain⟨pk,pn⟩:=p
   simp only [PartD.enc,Nat.add_zero]at c0 c1
   simp only at hat
   have HAT:=hId hat
   clear hc htb hat
   subst hA
   have hb1:(0:Int)≤k:=by omega
   have hb2:(k:Int)<np:=by omega
   have hbx:=Blk.new wr 78 #[.int .i64 pk,.string pn]
   have hmx:New wr (wr.alloc (.cells #[.int .i64 pk,.string pn] 78)):=(Mod.refl _ _).alloc _
   have HO1:=hId (HO.out.new hmx)
   go_upto_region 5 with fail
   have HX:=hId hbx
   have HM1:Hid (New w _):=hId (HM.out.trans hmx)
   have hBw1:w.heap.size≤_:=HM1.out.size
   clear hbx hmx HM c0 c1 HO
   have HM:=HM1
   have HO:=HO1
   clear HM1 HO1
   generalize wr.alloc (.cells #[.int .i64 pk,.string pn] 78)=w1 at *
   generalize wr.heap.size=xb at *
   have hir:=route_isRest ⟨pk,pn⟩ w1
   have x0:=HX.out.cell 0
   have x1:=HX.out.cell 1
   have xl:=HX.out.lt
   simp only [lqt,lqz,lqs]at x0 x1
   by_cases hk3:pk=3
   ·subst hk3
    go_upto_region 6 with(first |(refine hir.mono ?_;clear hir;rintro e w2 ⟨rfl,hm2⟩) | fail)
    try clear y0
    try clear y1
    try clear yl
    have HX2:=hId (HX.out.new2 hm2)
    have HO2:=hId (HO.out.new hm2)
    have HM2:Hid (New w w2):=hId (HM.out.trans hm2)
    clear HX HO HM
    have HX:=HX2
    have HO:=HO2
    have HM:=HM2
    clear HX2 HO2 HM2
    clear hm2
    have HSW:Hid (∀ W,New w2 W→W.cell? ⟨xb,0,none⟩=some (.int .i64 3)∧W.cell? ⟨xb,1,none⟩=some (.string pn)∧xb<W.heap.size):=hId (fun W hW=>by
     have h:=HX.out.new2 hW
     exact⟨(h.cell 0).trans rfl,(h.cell 1).trans rfl,h.lt⟩)
    have hmin:min (k:Int) (ns:Int)=(k:Int):=by omega
    have hkn:(k:Int)≤(ns:Int):=by omega
    have hnc:(ns:Int)≤(cs:Int):=by omega
    refine wp_region_held_ord (fun W=>W.cell? ⟨xb,0,none⟩=some (.int .i64 3)∧W.cell? ⟨xb,1,none⟩=some (.string pn)∧xb<W.heap.size) [9,11,12] [0,1,2,3,4,5,6,7,8,13,14,15,16,9,10,11,12,17] (by kernel_rfl) (by kernel_rfl) (fun _ _ d _ _ h=>by cases d <;> exact h) ?_ (fun hHeld=>?_)
    ·exact HSW.out _ (Mod.refl _ _).drew
    simp only [List.length_cons,List.length_nil,List.drop_succ_cons,List.drop_zero]
    refine heldO_take ?_ (by rfl) (by rfl) (by rfl) (fun w hSw=>?_) ?_
    rotate_left
    ·(try dsimp only at hSw);(try simp only [lgt,lgz,lgs]);go_simp;any_goals (with_reducible rfl)
    simp only [Act.put,lgt,lgz,lgs,lzt,lsz,lss]
    refine heldO_take ?_ (by rfl) (by rfl) (by rfl) (fun w hSw=>?_) ?_
    rotate_left
    ·(try dsimp only at hSw);(try simp only [lgt,lgz,lgs]);go_simp;any_goals (with_reducible rfl)
    simp only [Act.put,lgt,lgz,lgs,lzt,lsz,lss]
    refine heldO_take ?_ (by rfl) (by rfl) (by rfl) (fun w hSw=>?_) ?_
    rotate_left
    ·(try dsimp only at hSw);(try simp only [lgt,lgz,lgs]);go_simp;any_goals (with_reducible rfl)
    simp only [Act.put,lgt,lgz,lgs,lzt,lsz,lss]
    refine heldO_take ?_ (by rfl) (by rfl) (by rfl) (fun w hSw=>?_) ?_
    rotate_left
    ·(try dsimp only at hSw);(try simp only [lgt,lgz,lgs]);go_simp;any_goals (with_reducible rfl)
    simp only [Act.put,lgt,lgz,lgs,lzt,lsz,lss]
    refine heldO_take ?_ (by rfl) (by rfl) (by rfl) (fun w hSw=>?_) ?_
    rotate_left
    ·(try dsimp only at hSw);(try simp only [lgt,lgz,lgs]);go_simp;any_goals (with_reducible rfl)
    simp only [Act.put,lgt,lgz,lgs,lzt,lsz,lss]
    refine heldO_take ?_ (by rfl) (by rfl) (by rfl) (fun w hSw=>?_) ?_
    rotate_left
    ·(try dsimp only at hSw);(try simp only [lgt,lgz,lgs]);go_simp;any_goals (with_reducible rfl)
    simp only [Act.put,lgt,lgz,lgs,lzt,lsz,lss]
    refine heldO_take ?_ (by rfl) (by rfl) (by rfl) (fun w hSw=>?_) ?_
    rotate_left
    ·(try dsimp only at hSw);(try simp only [lgt,lgz,lgs]);go_simp;any_goals (with_reducible rfl)
    simp only [Act.put,lgt,lgz,lgs,lzt,lsz,lss]
    refine heldO_take ?_ (by rfl) (by rfl) (by rfl) (fun w hSw=>?_) ?_
    rotate_left
    ·(try dsimp only at hSw);(try simp only [lgt,lgz,lgs]);go_simp;any_goals (with_reducible rfl)
    simp only [Act.put,lgt,lgz,lgs,lzt,lsz,lss]
    refine heldO_take ?_ (by rfl) (by rfl) (by rfl) (fun w hSw=>?_) ?_
    rotate_left
    ·(try dsimp only at hSw);(try simp only [lgt,lgz,lgs]);go_simp;any_goals (with_reducible rfl)
    simp only [Act.put,lgt,lgz,lgs,lzt,lsz,lss]
    refine heldO_take ?_ (by rfl) (by rfl) (by rfl) (fun w hSw=>?_) ?_
    rotate_left
    ·(try dsimp only at hSw);(try simp only [lgt,lgz,lgs]);go_simp;any_goals (with_reducible rfl)
    simp only [Act.put,lgt,lgz,lgs,lzt,lsz,lss]
    refine heldO_take ?_ (by rfl) (by rfl) (by rfl) (fun w hSw=>?_) ?_
    rotate_left
    ·(try dsimp only at hSw);(try simp only [lgt,lgz,lgs]);go_simp;any_goals (with_reducible rfl)
    simp only [Act.put,lgt,lgz,lgs,lzt,lsz,lss]
    refine heldO_take ?_ (by rfl) (by rfl) (by rfl) (fun w hSw=>?_) ?_
    rotate_left
    ·(try dsimp only at hSw);(try simp only [lgt,lgz,lgs]);go_simp;any_goals (with_reducible rfl)
    simp only [Act.put,lgt,lgz,lgs,lzt,lsz,lss]
    refine heldO_take ?_ (by rfl) (by rfl) (by rfl) (fun w hSw=>?_) ?_
    rotate_left
    ·(try dsimp only at hSw);(try simp only [lgt,lgz,lgs]);go_simp;any_goals (with_reducible rfl)
    simp only [Act.put,lgt,lgz,lgs,lzt,lsz,lss]
    refine heldO_step (by rfl) (by rfl) (by rfl) (fun K hK=>?_)
    go_simp
    have hd2:New w2 w2.drew:=(Mod.refl (fun _=>False) w2).drew
    have hsd:=SSl.dropC (HS.out.new (HM.out.trans hd2)) hks hcs
    generalize (if cs=k then(some ⟨gs,os,none⟩:Option Addr) else some ⟨gs,os+k,none⟩)=Ax at *
    refine(route_pathOf _ _ _ (segs.drop k) w2.drew hsd (HF.out.drop k)).mono ?_
    clear hsd
    rintro e w4 ⟨rfl,hm4⟩
    have m24:=hd2.trans hm4
    have HR:Hid (matchL ps segs []=some (out++ [(pn,⟨(pathT (segs.drop k)).toArray⟩)])):=hId (by rw [HAT.out];simp)
    generalize (⟨(pathT (segs.drop k)).toArray⟩:ByteArray)=V at *
    go_wp2_with fail
    refine hK.out _ _ (HSW.out _ m24) (fun hHeld=>?_)
    clear hK K hHeld
    try simp only [Act.put,lzt,lsz,lss]
    have HSW4:=HSW
    clear HSW
    have HSW:Hid (∀ W,New w4 W→W.cell? ⟨xb,0,none⟩=some (.int .i64 3)∧W.cell? ⟨xb,1,none⟩=some (.string pn)∧xb<W.heap.size):=hId (fun W hW=>HSW4.out W (m24.trans hW))
    have HX2:=hId (HX.out.new2 m24)
    have HO2:=hId (HO.out.new m24)
    have HM2:Hid (New w w4):=hId (HM.out.trans m24)
    clear HX HO HM
    have HX:=HX2
    have HO:=HO2
    have HM:=HM2
    clear HX2 HO2 HM2
    clear m24 hm4 hd2 HSW4
    refine heldO_take ?_ (by rfl) (by rfl) (by rfl) (fun w hSw=>?_) ?_
    rotate_left
    ·(try dsimp only at hSw);(try simp only [lgt,lgz,lgs]);go_simp;any_goals (with_reducible rfl)
    simp only [Act.put,lgt,lgz,lgs,lzt,lsz,lss]
    have HOA:=hId (HO.out.alloc (.cells #[.string pn,.string V] 52))
    have HBN:=hId (Blk.new w4 52 #[.string pn,.string V])
    have hBq:w.heap.size≤(World.alloc w4 (.cells #[.string pn,.string V] 52)).heap.size:=Nat.le_trans HM.out.size (by simp)
    have HOF:Hid (∀ g',blkOf A'=some g'→w.heap.size≤g'):=hId (fun g' e=>HO.out.farP g' e)
    refine heldO_step (by rfl) (by rfl) (by rfl) (fun K hK=>?_)
    go_simp
    refine hK.out _ _ (HSW.out _ ((Mod.refl _ _).alloc _)) (fun hHeld=>?_)
    clear hK K hHeld
    try simp only [Act.put,lzt,lsz,lss]
    refine heldO_step (by rfl) (by rfl) (by rfl) (fun K hK=>?_)
    refine wp_push _ _ _ rfl 32 Tryz.underlying27 einfo_pair rfl (by exact HOA.out) (pn,V) (World.heap w4).size rfl (by exact HBN.out) (fun j hj=>pairEnc_one _ j hj) (by omega) (by omega) hBq ?_
    intro g8 cap8 w8 own8 hm8 hat8 hlt8
    have HO8:=hId own8
    have m8:Mod (fun i=>blkOf A'=some i) w4 w8:=((Mod.refl _ _).alloc _).trans hm8
    have HM8:Hid (New w w8):=hId (HM.out.step m8 (fun i hi e=>by have:=HOF.out i e;omega))
    have HX8:=hId (HX.out.mod m8 (fun e=>by have:=HOL.out _ e;omega))
    refine hK.out _ _ ⟨(HX8.out.cell 0).trans rfl,(HX8.out.cell 1).trans rfl,HX8.out.lt⟩ (fun hHeld=>?_)
    clear hK K hHeld own8 hm8 m8
    try simp only [Act.put,lzt,lsz,lss]
    refine heldO_take ?_ (by rfl) (by rfl) (by rfl) (fun w hSw=>?_) ?_
    rotate_left
    ·(try dsimp only at hSw);(try simp only [lgt,lgz,lgs]);go_simp;any_goals (with_reducible rfl)
    simp only [Act.put,lgt,lgz,lgs,lzt,lsz,lss]
    refine heldO_nil ?_
    go_wp2_with fail
    go_ret2
    exact RMatch.some HR.out HO8.out.sl HM8.out HO8.out.ncap
   ·rw [decide_eq_false hk3]at hir
    have hk3':((pk:Int) == 3)=false:=by simpa using hk3
    by_cases hkn:k<ns
    rotate_left
    ·obtain rfl:k=ns:=by omega
     have HR:Hid (matchL ps segs []=none):=hId (by rw [HAT.out,if_neg hk3,dif_neg (by have:=HSL.out;omega)])
     go_wp2_with (first |(refine hir.mono ?_;clear hir;rintro e w2 ⟨rfl,hm2⟩;have HM2:Hid (New w w2):=hId (HM.out.trans hm2);clear hm2) | fail)
     go_ret2
     exact RMatch.none HR.out HM2.out (Nat.zero_le _)
    ·have hkl:k<segs.length:=by have:=HSL.out;omega
     have hkni:(k:Int)<(ns:Int):=by omega
     have hat:=HAT.out
     rw [if_neg hk3,dif_pos hkl]at hat
     obtain⟨g2,o2,hA2,ht2,hcc⟩:=(HS.out.new HM.out).2 h0
     injection hA2 with hA2
     injection hA2 with q1 q2
     subst q1 q2
     have z0:=hcc k hkl 0 (by omega)
     have zl:=ht2.lt
     simp only [sEnc,Nat.mul_one,Nat.add_zero]at z0
     clear hcc ht2
     generalize segs[k]=x at *
     have HZ:Hid (∀ W,New w1 W→W.cell? ⟨gs,os+k,none⟩=some (.string x)∧gs<W.heap.size):=hId (fun W hW=>⟨by rw [← z0];exact hW.cell (p:=⟨gs,os+k,none⟩) zl (fun e=>e),Nat.lt_of_lt_of_le zl hW.size⟩)
     clear z0 zl HAT
     by_cases hk1:pk=1
     ·subst hk1
      by_cases hxp:x=pn
      ·subst hxp
       have HE1:Hid (matchL ps segs []=matchL (ps.drop (k+1)) (segs.drop (k+1)) out):=hId (by rw [hat];simp)
       have e1:(x.toList != x.toList)=false:=by simp
       clear hat
       go_upto_region 9 with(first |(refine hir.mono ?_;clear hir;rintro e w2 ⟨rfl,hm2⟩) | fail)
       try clear y0
       try clear y1
       try clear yl
       obtain⟨z0,zl⟩:=HZ.out w2 hm2
       have HX2:=hId (HX.out.new2 hm2)
       have HO2:=hId (HO.out.new hm2)
       have HM2:Hid (New w w2):=hId (HM.out.trans hm2)
       clear HX HO HM
       have HX:=HX2
       have HO:=HO2
       have HM:=HM2
       clear HX2 HO2 HM2
       clear hm2
       have x0:=HX.out.cell 0
       have x1:=HX.out.cell 1
       have xl:=HX.out.lt
       simp only [lqt,lqz,lqs]at x0 x1
       go_quiet (fail)
       go_wp2_with fail
       try(go_quiet (fail))
       try(go_wp2_with fail)
       all_goals exact⟨⟨k+1,n',c',A',out,by omega,by omega,by go_num,rfl,by omega,hId (HO.out.drewN _),HE1,hId (HM.out.drewN _)⟩,by simp [intOf];omega⟩
      ·have HR:Hid (matchL ps segs []=none):=hId (by rw [hat,if_pos (Or.inl ⟨rfl,hxp⟩)])
       have e1:=str_beq x pn
       rw [decide_eq_false hxp]at e1
       clear hat hxp
       go_upto_region 9 with(first |(refine hir.mono ?_;clear hir;rintro e w2 ⟨rfl,hm2⟩) | fail)
       try clear y0
       try clear y1
       try clear yl
       obtain⟨z0,zl⟩:=HZ.out w2 hm2
       have HX2:=hId (HX.out.new2 hm2)
       have HO2:=hId (HO.out.new hm2)
       have HM2:Hid (New w w2):=hId (HM.out.trans hm2)
       clear HX HO HM
       have HX:=HX2
       have HO:=HO2
       have HM:=HM2
       clear HX2 HO2 HM2
       clear hm2
       have x0:=HX.out.cell 0
       have x1:=HX.out.cell 1
       have xl:=HX.out.lt
       simp only [lqt,lqz,lqs]at x0 x1
       go_quiet (fail)
       go_wp2_with fail
       try(go_quiet (fail))
       try(go_wp2_with fail)
       go_ret2
       exact RMatch.none HR.out (HM.out.trans (by with_reducible (repeat (first | exact Mod.refl _ _ | refine Mod.drewN ?_ _ | refine Mod.drew ?_)))) (Nat.zero_le _)
     ·have hk1':((pk:Int) == 1)=false:=by simpa using hk1
      by_cases hk2:pk=2
      ·subst hk2
       have e3:=const_eq x []
       by_cases hxe:x=emptyB
       ·rw [decide_eq_true hxe]at e3
        have HR:Hid (matchL ps segs []=none):=hId (by rw [hat,if_pos (Or.inr ⟨rfl,hxe⟩)])
        clear hat hxe
        go_upto_region 9 with(first |(refine hir.mono ?_;clear hir;rintro e w2 ⟨rfl,hm2⟩) | fail)
        try clear y0
        try clear y1
        try clear yl
        obtain⟨z0,zl⟩:=HZ.out w2 hm2
        have HX2:=hId (HX.out.new2 hm2)
        have HO2:=hId (HO.out.new hm2)
        have HM2:Hid (New w w2):=hId (HM.out.trans hm2)
        clear HX HO HM
        have HX:=HX2
        have HO:=HO2
        have HM:=HM2
        clear HX2 HO2 HM2
        clear hm2
        have x0:=HX.out.cell 0
        have x1:=HX.out.cell 1
        have xl:=HX.out.lt
        simp only [lqt,lqz,lqs]at x0 x1
        go_quiet (fail)
        go_wp2_with fail
        try(go_quiet (fail))
        try(go_wp2_with fail)
        go_ret2
        exact RMatch.none HR.out (HM.out.trans (by with_reducible (repeat (first | exact Mod.refl _ _ | refine Mod.drewN ?_ _ | refine Mod.drew ?_)))) (Nat.zero_le _)
       ·rw [decide_eq_false hxe]at e3
        have HE1:Hid (matchL ps segs []=matchL (ps.drop (k+1)) (segs.drop (k+1)) (out++ [(pn,x)])):=hId (by rw [hat,if_neg (fun h=>h.elim (fun h=>hk1 h.1) (fun h=>hxe h.2)),if_pos rfl])
        clear hat hxe
        go_upto_region 9 with(first |(refine hir.mono ?_;clear hir;rintro e w2 ⟨rfl,hm2⟩) | fail)
        try clear y0
        try clear y1
        try clear yl
        obtain⟨z0,zl⟩:=HZ.out w2 hm2
        have HX2:=hId (HX.out.new2 hm2)
        have HO2:=hId (HO.out.new hm2)
        have HM2:Hid (New w w2):=hId (HM.out.trans hm2)
        clear HX HO HM
        have HX:=HX2
        have HO:=HO2
        have HM:=HM2
        clear HX2 HO2 HM2
        clear hm2
        have x0:=HX.out.cell 0
        have x1:=HX.out.cell 1
        have xl:=HX.out.lt
        simp only [lqt,lqz,lqs]at x0 x1
        go_quiet (fail)
        go_upto_region 13 with fail
        try clear y0
        try clear y1
        try clear yl
        have hm3:New w2 (w2.drewN nq):=(Mod.refl _ _).drewN _
        have HX2:=hId (HX.out.new2 hm3)
        have HO2:=hId (HO.out.new hm3)
        have HM2:Hid (New w (w2.drewN nq)):=hId (HM.out.trans hm3)
        clear HX HO HM
        have HX:=HX2
        have HO:=HO2
        have HM:=HM2
        clear HX2 HO2 HM2
        generalize w2.drewN nq=w3 at *
        have z3:w3.cell? ⟨gs,os+k,none⟩=some (.string x):=by rw [← z0];exact hm3.cell (p:=⟨gs,os+k,none⟩) zl (fun e=>e)
        have zl3:gs<w3.heap.size:=Nat.lt_of_lt_of_le zl hm3.size
        clear z0 zl hm3
        have HSW:Hid (∀ W,New w3 W→W.cell? ⟨xb,0,none⟩=some (.int .i64 2)∧W.cell? ⟨xb,1,none⟩=some (.string pn)∧xb<W.heap.size∧W.cell? ⟨gs,os+k,none⟩=some (.string x)∧gs<W.heap.size):=hId (fun W hW=>by
         have h:=HX.out.new2 hW
         exact⟨(h.cell 0).trans rfl,(h.cell 1).trans rfl,h.lt,by rw [← z3];exact hW.cell (p:=⟨gs,os+k,none⟩) zl3 (fun e=>e),Nat.lt_of_lt_of_le zl3 hW.size⟩)
        have hd3:New w3 w3.drew:=(Mod.refl (fun _=>False) w3).drew
        clear z3 zl3
        refine wp_region_held_ord (fun W=>W.cell? ⟨xb,0,none⟩=some (.int .i64 2)∧W.cell? ⟨xb,1,none⟩=some (.string pn)∧xb<W.heap.size∧W.cell? ⟨gs,os+k,none⟩=some (.string x)∧gs<W.heap.size) [8,9] [0,1,2,3,4,5,6,7,8,9] (by kernel_rfl) (by kernel_rfl) (fun _ _ d _ _ h=>by cases d <;> exact h) ?_ (fun hHeld=>?_)
        ·exact HSW.out _ hd3
        simp only [List.length_cons,List.length_nil,List.drop_succ_cons,List.drop_zero]
        refine heldO_take ?_ (by rfl) (by rfl) (by rfl) (fun w hSw=>?_) ?_
        rotate_left
        ·(try dsimp only at hSw);(try simp only [lgt,lgz,lgs]);go_simp;any_goals (with_reducible rfl)
        simp only [Act.put,lgt,lgz,lgs,lzt,lsz,lss]
        refine heldO_take ?_ (by rfl) (by rfl) (by rfl) (fun w hSw=>?_) ?_
        rotate_left
        ·(try dsimp only at hSw);(try simp only [lgt,lgz,lgs]);go_simp;any_goals (with_reducible rfl)
        simp only [Act.put,lgt,lgz,lgs,lzt,lsz,lss]
        refine heldO_take ?_ (by rfl) (by rfl) (by rfl) (fun w hSw=>?_) ?_
        rotate_left
        ·(try dsimp only at hSw);(try simp only [lgt,lgz,lgs]);go_simp;any_goals (with_reducible rfl)
        simp only [Act.put,lgt,lgz,lgs,lzt,lsz,lss]
        refine heldO_take ?_ (by rfl) (by rfl) (by rfl) (fun w hSw=>?_) ?_
        rotate_left
        ·(try dsimp only at hSw);(try simp only [lgt,lgz,lgs]);go_simp;any_goals (with_reducible rfl)
        simp only [Act.put,lgt,lgz,lgs,lzt,lsz,lss]
        refine heldO_take ?_ (by rfl) (by rfl) (by rfl) (fun w hSw=>?_) ?_
        rotate_left
        ·(try dsimp only at hSw);(try simp only [lgt,lgz,lgs]);go_simp;any_goals (with_reducible rfl)
        simp only [Act.put,lgt,lgz,lgs,lzt,lsz,lss]
        refine heldO_take ?_ (by rfl) (by rfl) (by rfl) (fun w hSw=>?_) ?_
        rotate_left
        ·(try dsimp only at hSw);(try simp only [lgt,lgz,lgs]);go_simp;any_goals (with_reducible rfl)
        simp only [Act.put,lgt,lgz,lgs,lzt,lsz,lss]
        refine heldO_take ?_ (by rfl) (by rfl) (by rfl) (fun w hSw=>?_) ?_
        rotate_left
        ·(try dsimp only at hSw);(try simp only [lgt,lgz,lgs]);go_simp;any_goals (with_reducible rfl)
        simp only [Act.put,lgt,lgz,lgs,lzt,lsz,lss]
        refine heldO_take ?_ (by rfl) (by rfl) (by rfl) (fun w hSw=>?_) ?_
        rotate_left
        ·(try dsimp only at hSw);(try simp only [lgt,lgz,lgs]);go_simp;any_goals (with_reducible rfl)
        simp only [Act.put,lgt,lgz,lgs,lzt,lsz,lss]
        have HSW3:=HSW
        clear HSW
        have HSW:Hid (∀ W,New w3.drew W→W.cell? ⟨xb,0,none⟩=some (.int .i64 2)∧W.cell? ⟨xb,1,none⟩=some (.string pn)∧xb<W.heap.size∧W.cell? ⟨gs,os+k,none⟩=some (.string x)∧gs<W.heap.size):=hId (fun W hW=>HSW3.out W (hd3.trans hW))
        have HX2:=hId (HX.out.new2 hd3)
        have HO2:=hId (HO.out.new hd3)
        have HM2:Hid (New w w3.drew):=hId (HM.out.trans hd3)
        clear HX HO HM
        have HX:=HX2
        have HO:=HO2
        have HM:=HM2
        clear HX2 HO2 HM2
        have HOA:=hId (HO.out.alloc (.cells #[.string pn,.string x] 52))
        have HBN:=hId (Blk.new w3.drew 52 #[.string pn,.string x])
        have hBq:w.heap.size≤(World.alloc w3.drew (.cells #[.string pn,.string x] 52)).heap.size:=Nat.le_trans HM.out.size (by simp)
        have HOF:Hid (∀ g',blkOf A'=some g'→w.heap.size≤g'):=hId (fun g' e=>HO.out.farP g' e)
        refine heldO_step (by rfl) (by rfl) (by rfl) (fun K hK=>?_)
        go_simp
        refine hK.out _ _ (HSW.out _ ((Mod.refl _ _).alloc _)) (fun hHeld=>?_)
        clear hK K hHeld
        try simp only [Act.put,lzt,lsz,lss]
        refine heldO_step (by rfl) (by rfl) (by rfl) (fun K hK=>?_)
        refine wp_push _ _ _ rfl 32 Tryz.underlying27 einfo_pair rfl (by exact HOA.out) (pn,x) (World.heap w3.drew).size rfl (by exact HBN.out) (fun j hj=>pairEnc_one _ j hj) (by omega) (by omega) hBq ?_
        intro g8 cap8 w8 own8 hm8 hat8 hlt8
        have HO8:=hId own8
        have m8:Mod (fun i=>blkOf A'=some i) w3.drew w8:=((Mod.refl _ _).alloc _).trans hm8
        have HM8:Hid (New w w8):=hId (HM.out.step m8 (fun i hi e=>by have:=HOF.out i e;omega))
        have HX8:=hId (HX.out.mod m8 (fun e=>by have:=HOL.out _ e;omega))
        have HXZ:=HSW.out _ (Mod.refl _ _)
        refine hK.out _ _ ⟨(HX8.out.cell 0).trans rfl,(HX8.out.cell 1).trans rfl,HX8.out.lt,?_,Nat.lt_of_lt_of_le HXZ.2.2.2.2 m8.size⟩ (fun hHeld=>?_)
        ·rw [← HXZ.2.2.2.1]
         refine m8.cell (p:=⟨gs,os+k,none⟩) HXZ.2.2.2.2 (fun e=>?_)
         have:=HOF.out gs e
         have:=HSB.out
         omega
        clear hK K hHeld own8 hm8 m8 HXZ
        try simp only [Act.put,lzt,lsz,lss]
        refine heldO_nil ?_
        go_wp2_with fail
        all_goals exact⟨⟨k+1,n'+1,cap8,some ⟨g8,0,none⟩,_,by omega,by omega,by go_num,rfl,by omega,HO8,HE1,HM8⟩,by simp [intOf];omega⟩
      ·have hk2':((pk:Int) == 2)=false:=by simpa using hk2
       have HE1:Hid (matchL ps segs []=matchL (ps.drop (k+1)) (segs.drop (k+1)) out):=hId (by rw [hat,if_neg (fun h=>h.elim (fun h=>hk1 h.1) (fun h=>hk2 h.1)),if_neg hk2])
       clear hat
       go_upto_region 9 with(first |(refine hir.mono ?_;clear hir;rintro e w2 ⟨rfl,hm2⟩) | fail)
       try clear y0
       try clear y1
       try clear yl
       obtain⟨z0,zl⟩:=HZ.out w2 hm2
       have HX2:=hId (HX.out.new2 hm2)
       have HO2:=hId (HO.out.new hm2)
       have HM2:Hid (New w w2):=hId (HM.out.trans hm2)
       clear HX HO HM
       have HX:=HX2
       have HO:=HO2
       have HM:=HM2
       clear HX2 HO2 HM2
       clear hm2
       have x0:=HX.out.cell 0
       have x1:=HX.out.cell 1
       have xl:=HX.out.lt
       simp only [lqt,lqz,lqs]at x0 x1
       go_quiet (fail)
       go_wp2_with fail
       try(go_quiet (fail))
       try(go_wp2_with fail)
       all_goals exact⟨⟨k+1,n',c',A',out,by omega,by omega,by go_num,rfl,by omega,hId (HO.out.drewN _),HE1,hId (HM.out.drewN _)⟩,by simp [intOf];omega⟩
  ·obtain rfl:k=np:=by omega
   have hend:=match_end (ps:=ps) (segs:=segs) (k:=k) (by have:=HPL.out;omega) (by have:=HSL.out;omega) out
   rw [← HE.out]at hend
   have hcc:=HO.out.ncap
   by_cases hkn:k=ns
   ·subst hkn
    have HR:Hid (matchL ps segs []=some out):=hId (by rw [hend,if_pos (by have:=HSL.out;omega)])
    clear hend
    go_wp2_with fail
    go_ret2
    exact RMatch.some HR.out HO.out.sl HM.out hcc
   ·have hkn':((k:Int) == (ns:Int))=false:=by simp;omega
    have HR:Hid (matchL ps segs []=none):=hId (by rw [hend,if_neg (by have:=HSL.out;omega)])
    clear hend
    go_wp2_with fail
    go_ret2
    exact RMatch.none HR.out HM.out hcc
end Go.Proofs.YtnlloaimplgjnaaGreatDoor
