/- Several texts in one. (1) The parameters that a template's parts take of segments (gateref1.matched), printed out of XMatch by mkmatched.py. Conditions: texts of modest size. (2) The reference reads a template (TemplateOf). Conditions: a string of modest size; the library's variable on searching is an int. -/
import Derived.Test.YtnlloaimplgjnaaGreatDoorMatch
import Derived.Test.YtnlloaimplgjnaaGreatDoorTplR2Grp
namespace Go.Proofs.YtnlloaimplgjnaaGreatDoor
open Go.RowKit
set_option linter.unusedVariables false
set_option linter.unusedSimpArgs false
set_option maxRecDepth 100000 in
set_option maxHeartbeats 1500000 in
theorem ref1_matched (Ap:Option Addr) (np cp:Nat) (ps:List PartD) (As:Option Addr) (ns cs:Nat) (segs:List ByteArray) (w:World) (hp:PSl w Ap np ps) (hs:SSl w As ns segs) (hn:np≤100000) (hf:PFit segs) (hcs:ns≤cs) (h0:0<ns):
  Calls Tryz.prog 127 #[.slice Ap np cp,.slice As ns cs] w (RMatch (matchL ps segs []) w):=by
 have hsl:=hs.1
 have hpl:=hp.1
 obtain⟨gs,os,rfl,htg,-⟩:=hs.2 h0
 have HSB:=hId htg.lt
 clear htg
 have HP:=hId hp
 have HS:=hId hs
 have HF:=hId hf
 have HPL:=hId hpl
 have HSL:=hId hsl
 have hns:ns≤300000:=by have h1:=pathT_ge segs;have h2:=hf.t;omega
 clear hp hs hf hpl hsl
 go_enter Tryz.func127,Tryz.ntmps127
 go_wp2_with fail
 go_loopw [6,11] (fun o' i wr=>∃(k n' c':Nat) (A':Option Addr) (out:List PairD),k≤np∧k≤ns∧i= .int .i64 k∧o'= .slice A' n' c'∧n'≤k∧Hid (Own wr w.heap.size 52 2 pairEnc A' n' c' out)∧Hid (matchL ps segs []=matchL (ps.drop k) (segs.drop k) out)∧Hid (New w wr)) (fun _ i _=>np -(intOf i).toNat)
 case atStart=>exact⟨0,0,0,none,[],Nat.zero_le _,Nat.zero_le _,rfl,rfl,Nat.le_refl _,hId Own.nil,hId rfl,hId (Mod.refl _ _)⟩
 case round=>
  rename World=>wr
  obtain⟨k,n',c',A',out,hk,hks,rfl,rfl,hnk,HO,HE,HM⟩:=hrel
  by_cases hlt:k<np
  ·have hkp:k<ps.length:=by have:=HPL.out;omega
   have HOL:Hid (∀ g',blkOf A'=some g'→g'<wr.heap.size):=hId (fun g' e=>HO.out.belowM g' e)
   have hat:=match_at (segs:=segs) hkp out
   rw [← HE.out]at hat
   obtain⟨g,o,hA,htb,hc⟩:=(HP.out.new HM.out).2 (by omega)
   have hgl:=htb.lt
   have c0:=hc k hkp 0 (by decide)
   have c1:=hc k hkp 1 (by decide)
   generalize ps[k]=p at *
   obtain⟨pk,pn⟩:=p
   simp only [PartD.enc,Nat.add_zero]at c0 c1
   simp only at hat
   have HAT:=hId hat
   clear hc htb hat
   subst hA
   have hb1:(0:Int)≤k:=by omega
   have hb2:(k:Int)<np:=by omega
   have hbx:=Blk.new wr 78 #[.int .i64 pk,.string pn]
   have hmx:New wr (wr.alloc (.cells #[.int .i64 pk,.string pn] 78)):=(Mod.refl _ _).alloc _
   have HO1:=hId (HO.out.new hmx)
   go_upto_region 5 with fail
   have HX:=hId hbx
   have HM1:Hid (New w _):=hId (HM.out.trans hmx)
   have hBw1:w.heap.size≤_:=HM1.out.size
   clear hbx hmx HM c0 c1 HO
   have HM:=HM1
   have HO:=HO1
   clear HM1 HO1
   generalize wr.alloc (.cells #[.int .i64 pk,.string pn] 78)=w1 at *
   generalize wr.heap.size=xb at *
   have y0:=HX.out.cell 0
   have y1:=HX.out.cell 1
   have yl:=HX.out.lt
   simp only [lqt,lqz,lqs]at y0 y1
   by_cases hk3:pk=3
   ·subst hk3
    go_upto_region 6 with fail
    have hm2:New w1 w1:=Mod.refl _ _
    try clear y0
    try clear y1
    try clear yl
    have HX2:=hId (HX.out.new2 hm2)
    have HO2:=hId (HO.out.new hm2)
    have HM2:Hid (New w w1):=hId (HM.out.trans hm2)
    clear HX HO HM
    have HX:=HX2
    have HO:=HO2
    have HM:=HM2
    clear HX2 HO2 HM2
    clear hm2
    have HSW:Hid (∀ W,New w1 W→W.cell? ⟨xb,0,none⟩=some (.int .i64 3)∧W.cell? ⟨xb,1,none⟩=some (.string pn)∧xb<W.heap.size):=hId (fun W hW=>by
     have h:=HX.out.new2 hW
     exact⟨(h.cell 0).trans rfl,(h.cell 1).trans rfl,h.lt⟩)
    have hmin:min (k:Int) (ns:Int)=(k:Int):=by omega
    have hkn:(k:Int)≤(ns:Int):=by omega
    have hnc:(ns:Int)≤(cs:Int):=by omega
    refine wp_region_held_ord (fun W=>W.cell? ⟨xb,0,none⟩=some (.int .i64 3)∧W.cell? ⟨xb,1,none⟩=some (.string pn)∧xb<W.heap.size) [9,11,12] [0,1,2,3,4,5,6,7,8,13,14,15,16,9,10,11,12,17] (by kernel_rfl) (by kernel_rfl) (fun _ _ d _ _ h=>by cases d <;> exact h) ?_ (fun hHeld=>?_)
    ·exact HSW.out _ (Mod.refl _ _).drew
    simp only [List.length_cons,List.length_nil,List.drop_succ_cons,List.drop_zero]
    refine heldO_take ?_ (by rfl) (by rfl) (by rfl) (fun w hSw=>?_) ?_
    rotate_left
    ·(try dsimp only at hSw);(try simp only [lgt,lgz,lgs]);go_simp;any_goals (with_reducible rfl)
    simp only [Act.put,lgt,lgz,lgs,lzt,lsz,lss]
    refine heldO_take ?_ (by rfl) (by rfl) (by rfl) (fun w hSw=>?_) ?_
    rotate_left
    ·(try dsimp only at hSw);(try simp only [lgt,lgz,lgs]);go_simp;any_goals (with_reducible rfl)
    simp only [Act.put,lgt,lgz,lgs,lzt,lsz,lss]
    refine heldO_take ?_ (by rfl) (by rfl) (by rfl) (fun w hSw=>?_) ?_
    rotate_left
    ·(try dsimp only at hSw);(try simp only [lgt,lgz,lgs]);go_simp;any_goals (with_reducible rfl)
    simp only [Act.put,lgt,lgz,lgs,lzt,lsz,lss]
    refine heldO_take ?_ (by rfl) (by rfl) (by rfl) (fun w hSw=>?_) ?_
    rotate_left
    ·(try dsimp only at hSw);(try simp only [lgt,lgz,lgs]);go_simp;any_goals (with_reducible rfl)
    simp only [Act.put,lgt,lgz,lgs,lzt,lsz,lss]
    refine heldO_take ?_ (by rfl) (by rfl) (by rfl) (fun w hSw=>?_) ?_
    rotate_left
    ·(try dsimp only at hSw);(try simp only [lgt,lgz,lgs]);go_simp;any_goals (with_reducible rfl)
    simp only [Act.put,lgt,lgz,lgs,lzt,lsz,lss]
    refine heldO_take ?_ (by rfl) (by rfl) (by rfl) (fun w hSw=>?_) ?_
    rotate_left
    ·(try dsimp only at hSw);(try simp only [lgt,lgz,lgs]);go_simp;any_goals (with_reducible rfl)
    simp only [Act.put,lgt,lgz,lgs,lzt,lsz,lss]
    refine heldO_take ?_ (by rfl) (by rfl) (by rfl) (fun w hSw=>?_) ?_
    rotate_left
    ·(try dsimp only at hSw);(try simp only [lgt,lgz,lgs]);go_simp;any_goals (with_reducible rfl)
    simp only [Act.put,lgt,lgz,lgs,lzt,lsz,lss]
    refine heldO_take ?_ (by rfl) (by rfl) (by rfl) (fun w hSw=>?_) ?_
    rotate_left
    ·(try dsimp only at hSw);(try simp only [lgt,lgz,lgs]);go_simp;any_goals (with_reducible rfl)
    simp only [Act.put,lgt,lgz,lgs,lzt,lsz,lss]
    refine heldO_take ?_ (by rfl) (by rfl) (by rfl) (fun w hSw=>?_) ?_
    rotate_left
    ·(try dsimp only at hSw);(try simp only [lgt,lgz,lgs]);go_simp;any_goals (with_reducible rfl)
    simp only [Act.put,lgt,lgz,lgs,lzt,lsz,lss]
    refine heldO_take ?_ (by rfl) (by rfl) (by rfl) (fun w hSw=>?_) ?_
    rotate_left
    ·(try dsimp only at hSw);(try simp only [lgt,lgz,lgs]);go_simp;any_goals (with_reducible rfl)
    simp only [Act.put,lgt,lgz,lgs,lzt,lsz,lss]
    refine heldO_take ?_ (by rfl) (by rfl) (by rfl) (fun w hSw=>?_) ?_
    rotate_left
    ·(try dsimp only at hSw);(try simp only [lgt,lgz,lgs]);go_simp;any_goals (with_reducible rfl)
    simp only [Act.put,lgt,lgz,lgs,lzt,lsz,lss]
    refine heldO_take ?_ (by rfl) (by rfl) (by rfl) (fun w hSw=>?_) ?_
    rotate_left
    ·(try dsimp only at hSw);(try simp only [lgt,lgz,lgs]);go_simp;any_goals (with_reducible rfl)
    simp only [Act.put,lgt,lgz,lgs,lzt,lsz,lss]
    refine heldO_take ?_ (by rfl) (by rfl) (by rfl) (fun w hSw=>?_) ?_
    rotate_left
    ·(try dsimp only at hSw);(try simp only [lgt,lgz,lgs]);go_simp;any_goals (with_reducible rfl)
    simp only [Act.put,lgt,lgz,lgs,lzt,lsz,lss]
    refine heldO_step (by rfl) (by rfl) (by rfl) (fun K hK=>?_)
    go_simp
    have hd2:New w1 w1.drew:=(Mod.refl (fun _=>False) w1).drew
    have hsd:=SSl.dropC (HS.out.new (HM.out.trans hd2)) hks hcs
    generalize (if cs=k then(some ⟨gs,os,none⟩:Option Addr) else some ⟨gs,os+k,none⟩)=Ax at *
    refine(ref1_joined _ _ _ (segs.drop k) w1.drew hsd (HF.out.drop k)).mono ?_
    clear hsd
    rintro e w4 ⟨rfl,hm4⟩
    have m24:=hd2.trans hm4
    have HR:Hid (matchL ps segs []=some (out++ [(pn,⟨(pathT (segs.drop k)).toArray⟩)])):=hId (by rw [HAT.out];simp)
    generalize (⟨(pathT (segs.drop k)).toArray⟩:ByteArray)=V at *
    go_wp2_with fail
    refine hK.out _ _ (HSW.out _ m24) (fun hHeld=>?_)
    clear hK K hHeld
    try simp only [Act.put,lzt,lsz,lss]
    have HSW4:=HSW
    clear HSW
    have HSW:Hid (∀ W,New w4 W→W.cell? ⟨xb,0,none⟩=some (.int .i64 3)∧W.cell? ⟨xb,1,none⟩=some (.string pn)∧xb<W.heap.size):=hId (fun W hW=>HSW4.out W (m24.trans hW))
    have HX2:=hId (HX.out.new2 m24)
    have HO2:=hId (HO.out.new m24)
    have HM2:Hid (New w w4):=hId (HM.out.trans m24)
    clear HX HO HM
    have HX:=HX2
    have HO:=HO2
    have HM:=HM2
    clear HX2 HO2 HM2
    clear m24 hm4 hd2 HSW4
    refine heldO_take ?_ (by rfl) (by rfl) (by rfl) (fun w hSw=>?_) ?_
    rotate_left
    ·(try dsimp only at hSw);(try simp only [lgt,lgz,lgs]);go_simp;any_goals (with_reducible rfl)
    simp only [Act.put,lgt,lgz,lgs,lzt,lsz,lss]
    have HOA:=hId (HO.out.alloc (.cells #[.string pn,.string V] 52))
    have HBN:=hId (Blk.new w4 52 #[.string pn,.string V])
    have hBq:w.heap.size≤(World.alloc w4 (.cells #[.string pn,.string V] 52)).heap.size:=Nat.le_trans HM.out.size (by simp)
    have HOF:Hid (∀ g',blkOf A'=some g'→w.heap.size≤g'):=hId (fun g' e=>HO.out.farP g' e)
    refine heldO_step (by rfl) (by rfl) (by rfl) (fun K hK=>?_)
    go_simp
    refine hK.out _ _ (HSW.out _ ((Mod.refl _ _).alloc _)) (fun hHeld=>?_)
    clear hK K hHeld
    try simp only [Act.put,lzt,lsz,lss]
    refine heldO_step (by rfl) (by rfl) (by rfl) (fun K hK=>?_)
    refine wp_push _ _ _ rfl 32 Tryz.underlying27 einfo_pair rfl (by exact HOA.out) (pn,V) (World.heap w4).size rfl (by exact HBN.out) (fun j hj=>pairEnc_one _ j hj) (by omega) (by omega) hBq ?_
    intro g8 cap8 w8 own8 hm8 hat8 hlt8
    have HO8:=hId own8
    have m8:Mod (fun i=>blkOf A'=some i) w4 w8:=((Mod.refl _ _).alloc _).trans hm8
    have HM8:Hid (New w w8):=hId (HM.out.step m8 (fun i hi e=>by have:=HOF.out i e;omega))
    have HX8:=hId (HX.out.mod m8 (fun e=>by have:=HOL.out _ e;omega))
    refine hK.out _ _ ⟨(HX8.out.cell 0).trans rfl,(HX8.out.cell 1).trans rfl,HX8.out.lt⟩ (fun hHeld=>?_)
    clear hK K hHeld own8 hm8 m8
    try simp only [Act.put,lzt,lsz,lss]
    refine heldO_take ?_ (by rfl) (by rfl) (by rfl) (fun w hSw=>?_) ?_
    rotate_left
    ·(try dsimp only at hSw);(try simp only [lgt,lgz,lgs]);go_simp;any_goals (with_reducible rfl)
    simp only [Act.put,lgt,lgz,lgs,lzt,lsz,lss]
    refine heldO_nil ?_
    go_wp2_with fail
    go_ret2
    exact RMatch.some HR.out HO8.out.sl HM8.out HO8.out.ncap
   ·have hk3':((pk:Int) == 3)=false:=by simpa using hk3
    by_cases hkn:k<ns
    rotate_left
    ·obtain rfl:k=ns:=by omega
     have HR:Hid (matchL ps segs []=none):=hId (by rw [HAT.out,if_neg hk3,dif_neg (by have:=HSL.out;omega)])
     go_wp2_with fail
     go_quiet (fail)
     go_wp2_with fail
     go_ret2
     exact RMatch.none HR.out (HM.out.drewN _) (Nat.zero_le _)
    ·have hkl:k<segs.length:=by have:=HSL.out;omega
     have hkni:(k:Int)<(ns:Int):=by omega
     have hknd:decide (ns≤k)=false:=by simp;omega
     have hknn:¬ ns≤k:=by omega
     have hat:=HAT.out
     rw [if_neg hk3,dif_pos hkl]at hat
     obtain⟨g2,o2,hA2,ht2,hcc⟩:=(HS.out.new HM.out).2 h0
     injection hA2 with hA2
     injection hA2 with q1 q2
     subst q1 q2
     have z0:=hcc k hkl 0 (by omega)
     have zl:=ht2.lt
     simp only [sEnc,Nat.mul_one,Nat.add_zero]at z0
     clear hcc ht2
     generalize segs[k]=x at *
     have HZ:Hid (∀ W,New w1 W→W.cell? ⟨gs,os+k,none⟩=some (.string x)∧gs<W.heap.size):=hId (fun W hW=>⟨by rw [← z0];exact hW.cell (p:=⟨gs,os+k,none⟩) zl (fun e=>e),Nat.lt_of_lt_of_le zl hW.size⟩)
     clear z0 zl HAT
     by_cases hk1:pk=1
     ·subst hk1
      by_cases hxp:x=pn
      ·subst hxp
       have HE1:Hid (matchL ps segs []=matchL (ps.drop (k+1)) (segs.drop (k+1)) out):=hId (by rw [hat];simp)
       have e1:(x.toList != x.toList)=false:=by simp
       clear hat
       go_upto_region 7 with fail
       have hm2:New w1 w1:=Mod.refl _ _
       try clear y0
       try clear y1
       try clear yl
       obtain⟨z0,zl⟩:=HZ.out w1 hm2
       have HX2:=hId (HX.out.new2 hm2)
       have HO2:=hId (HO.out.new hm2)
       have HM2:Hid (New w w1):=hId (HM.out.trans hm2)
       clear HX HO HM
       have HX:=HX2
       have HO:=HO2
       have HM:=HM2
       clear HX2 HO2 HM2
       clear hm2
       have y0:=HX.out.cell 0
       have y1:=HX.out.cell 1
       have yl:=HX.out.lt
       simp only [lqt,lqz,lqs]at y0 y1
       go_quiet (fail)
       go_wp2_with fail
       try(go_quiet (fail))
       try(go_wp2_with fail)
       all_goals exact⟨⟨k+1,n',c',A',out,by omega,by omega,by go_num,rfl,by omega,hId (HO.out.drewN _),HE1,hId (HM.out.drewN _)⟩,by simp [intOf];omega⟩
      ·have HR:Hid (matchL ps segs []=none):=hId (by rw [hat,if_pos (Or.inl ⟨rfl,hxp⟩)])
       have e1:=str_beq x pn
       rw [decide_eq_false hxp]at e1
       clear hat hxp
       go_upto_region 7 with fail
       have hm2:New w1 w1:=Mod.refl _ _
       try clear y0
       try clear y1
       try clear yl
       obtain⟨z0,zl⟩:=HZ.out w1 hm2
       have HX2:=hId (HX.out.new2 hm2)
       have HO2:=hId (HO.out.new hm2)
       have HM2:Hid (New w w1):=hId (HM.out.trans hm2)
       clear HX HO HM
       have HX:=HX2
       have HO:=HO2
       have HM:=HM2
       clear HX2 HO2 HM2
       clear hm2
       have y0:=HX.out.cell 0
       have y1:=HX.out.cell 1
       have yl:=HX.out.lt
       simp only [lqt,lqz,lqs]at y0 y1
       go_quiet (fail)
       go_wp2_with fail
       try(go_quiet (fail))
       try(go_wp2_with fail)
       go_ret2
       exact RMatch.none HR.out (HM.out.trans (by with_reducible (repeat (first | exact Mod.refl _ _ | refine Mod.drewN ?_ _ | refine Mod.drew ?_)))) (Nat.zero_le _)
     ·have hk1':((pk:Int) == 1)=false:=by simpa using hk1
      by_cases hk2:pk=2
      ·subst hk2
       have e3:=const_eq x []
       by_cases hxe:x=emptyB
       ·rw [decide_eq_true hxe]at e3
        have HR:Hid (matchL ps segs []=none):=hId (by rw [hat,if_pos (Or.inr ⟨rfl,hxe⟩)])
        clear hat hxe
        go_upto_region 7 with fail
        have hm2:New w1 w1:=Mod.refl _ _
        try clear y0
        try clear y1
        try clear yl
        obtain⟨z0,zl⟩:=HZ.out w1 hm2
        have HX2:=hId (HX.out.new2 hm2)
        have HO2:=hId (HO.out.new hm2)
        have HM2:Hid (New w w1):=hId (HM.out.trans hm2)
        clear HX HO HM
        have HX:=HX2
        have HO:=HO2
        have HM:=HM2
        clear HX2 HO2 HM2
        clear hm2
        have y0:=HX.out.cell 0
        have y1:=HX.out.cell 1
        have yl:=HX.out.lt
        simp only [lqt,lqz,lqs]at y0 y1
        go_quiet (fail)
        go_wp2_with fail
        try(go_quiet (fail))
        try(go_wp2_with fail)
        go_ret2
        exact RMatch.none HR.out (HM.out.trans (by with_reducible (repeat (first | exact Mod.refl _ _ | refine Mod.drewN ?_ _ | refine Mod.drew ?_)))) (Nat.zero_le _)
       ·rw [decide_eq_false hxe]at e3
        have HE1:Hid (matchL ps segs []=matchL (ps.drop (k+1)) (segs.drop (k+1)) (out++ [(pn,x)])):=hId (by rw [hat,if_neg (fun h=>h.elim (fun h=>hk1 h.1) (fun h=>hxe h.2)),if_pos rfl])
        clear hat hxe
        go_upto_region 7 with fail
        have hm2:New w1 w1:=Mod.refl _ _
        try clear y0
        try clear y1
        try clear yl
        obtain⟨z0,zl⟩:=HZ.out w1 hm2
        have HX2:=hId (HX.out.new2 hm2)
        have HO2:=hId (HO.out.new hm2)
        have HM2:Hid (New w w1):=hId (HM.out.trans hm2)
        clear HX HO HM
        have HX:=HX2
        have HO:=HO2
        have HM:=HM2
        clear HX2 HO2 HM2
        clear hm2
        have y0:=HX.out.cell 0
        have y1:=HX.out.cell 1
        have yl:=HX.out.lt
        simp only [lqt,lqz,lqs]at y0 y1
        go_quiet (fail)
        go_upto_region 10 with fail
        try clear y0
        try clear y1
        try clear yl
        have hm3:New w1 (w1.drewN nq):=(Mod.refl _ _).drewN _
        have HX2:=hId (HX.out.new2 hm3)
        have HO2:=hId (HO.out.new hm3)
        have HM2:Hid (New w (w1.drewN nq)):=hId (HM.out.trans hm3)
        clear HX HO HM
        have HX:=HX2
        have HO:=HO2
        have HM:=HM2
        clear HX2 HO2 HM2
        generalize w1.drewN nq=w3 at *
        have z3:w3.cell? ⟨gs,os+k,none⟩=some (.string x):=by rw [← z0];exact hm3.cell (p:=⟨gs,os+k,none⟩) zl (fun e=>e)
        have zl3:gs<w3.heap.size:=Nat.lt_of_lt_of_le zl hm3.size
        clear z0 zl hm3
        have HSW:Hid (∀ W,New w3 W→W.cell? ⟨xb,0,none⟩=some (.int .i64 2)∧W.cell? ⟨xb,1,none⟩=some (.string pn)∧xb<W.heap.size∧W.cell? ⟨gs,os+k,none⟩=some (.string x)∧gs<W.heap.size):=hId (fun W hW=>by
         have h:=HX.out.new2 hW
         exact⟨(h.cell 0).trans rfl,(h.cell 1).trans rfl,h.lt,by rw [← z3];exact hW.cell (p:=⟨gs,os+k,none⟩) zl3 (fun e=>e),Nat.lt_of_lt_of_le zl3 hW.size⟩)
        have hd3:New w3 w3.drew:=(Mod.refl (fun _=>False) w3).drew
        clear z3 zl3
        refine wp_region_held_ord (fun W=>W.cell? ⟨xb,0,none⟩=some (.int .i64 2)∧W.cell? ⟨xb,1,none⟩=some (.string pn)∧xb<W.heap.size∧W.cell? ⟨gs,os+k,none⟩=some (.string x)∧gs<W.heap.size) [8,9] [0,1,2,3,4,5,6,7,8,9] (by kernel_rfl) (by kernel_rfl) (fun _ _ d _ _ h=>by cases d <;> exact h) ?_ (fun hHeld=>?_)
        ·exact HSW.out _ hd3
        simp only [List.length_cons,List.length_nil,List.drop_succ_cons,List.drop_zero]
        refine heldO_take ?_ (by rfl) (by rfl) (by rfl) (fun w hSw=>?_) ?_
        rotate_left
        ·(try dsimp only at hSw);(try simp only [lgt,lgz,lgs]);go_simp;any_goals (with_reducible rfl)
        simp only [Act.put,lgt,lgz,lgs,lzt,lsz,lss]
        refine heldO_take ?_ (by rfl) (by rfl) (by rfl) (fun w hSw=>?_) ?_
        rotate_left
        ·(try dsimp only at hSw);(try simp only [lgt,lgz,lgs]);go_simp;any_goals (with_reducible rfl)
        simp only [Act.put,lgt,lgz,lgs,lzt,lsz,lss]
        refine heldO_take ?_ (by rfl) (by rfl) (by rfl) (fun w hSw=>?_) ?_
        rotate_left
        ·(try dsimp only at hSw);(try simp only [lgt,lgz,lgs]);go_simp;any_goals (with_reducible rfl)
        simp only [Act.put,lgt,lgz,lgs,lzt,lsz,lss]
        refine heldO_take ?_ (by rfl) (by rfl) (by rfl) (fun w hSw=>?_) ?_
        rotate_left
        ·(try dsimp only at hSw);(try simp only [lgt,lgz,lgs]);go_simp;any_goals (with_reducible rfl)
        simp only [Act.put,lgt,lgz,lgs,lzt,lsz,lss]
        refine heldO_take ?_ (by rfl) (by rfl) (by rfl) (fun w hSw=>?_) ?_
        rotate_left
        ·(try dsimp only at hSw);(try simp only [lgt,lgz,lgs]);go_simp;any_goals (with_reducible rfl)
        simp only [Act.put,lgt,lgz,lgs,lzt,lsz,lss]
        refine heldO_take ?_ (by rfl) (by rfl) (by rfl) (fun w hSw=>?_) ?_
        rotate_left
        ·(try dsimp only at hSw);(try simp only [lgt,lgz,lgs]);go_simp;any_goals (with_reducible rfl)
        simp only [Act.put,lgt,lgz,lgs,lzt,lsz,lss]
        refine heldO_take ?_ (by rfl) (by rfl) (by rfl) (fun w hSw=>?_) ?_
        rotate_left
        ·(try dsimp only at hSw);(try simp only [lgt,lgz,lgs]);go_simp;any_goals (with_reducible rfl)
        simp only [Act.put,lgt,lgz,lgs,lzt,lsz,lss]
        refine heldO_take ?_ (by rfl) (by rfl) (by rfl) (fun w hSw=>?_) ?_
        rotate_left
        ·(try dsimp only at hSw);(try simp only [lgt,lgz,lgs]);go_simp;any_goals (with_reducible rfl)
        simp only [Act.put,lgt,lgz,lgs,lzt,lsz,lss]
        have HSW3:=HSW
        clear HSW
        have HSW:Hid (∀ W,New w3.drew W→W.cell? ⟨xb,0,none⟩=some (.int .i64 2)∧W.cell? ⟨xb,1,none⟩=some (.string pn)∧xb<W.heap.size∧W.cell? ⟨gs,os+k,none⟩=some (.string x)∧gs<W.heap.size):=hId (fun W hW=>HSW3.out W (hd3.trans hW))
        have HX2:=hId (HX.out.new2 hd3)
        have HO2:=hId (HO.out.new hd3)
        have HM2:Hid (New w w3.drew):=hId (HM.out.trans hd3)
        clear HX HO HM
        have HX:=HX2
        have HO:=HO2
        have HM:=HM2
        clear HX2 HO2 HM2
        have HOA:=hId (HO.out.alloc (.cells #[.string pn,.string x] 52))
        have HBN:=hId (Blk.new w3.drew 52 #[.string pn,.string x])
        have hBq:w.heap.size≤(World.alloc w3.drew (.cells #[.string pn,.string x] 52)).heap.size:=Nat.le_trans HM.out.size (by simp)
        have HOF:Hid (∀ g',blkOf A'=some g'→w.heap.size≤g'):=hId (fun g' e=>HO.out.farP g' e)
        refine heldO_step (by rfl) (by rfl) (by rfl) (fun K hK=>?_)
        go_simp
        refine hK.out _ _ (HSW.out _ ((Mod.refl _ _).alloc _)) (fun hHeld=>?_)
        clear hK K hHeld
        try simp only [Act.put,lzt,lsz,lss]
        refine heldO_step (by rfl) (by rfl) (by rfl) (fun K hK=>?_)
        refine wp_push _ _ _ rfl 32 Tryz.underlying27 einfo_pair rfl (by exact HOA.out) (pn,x) (World.heap w3.drew).size rfl (by exact HBN.out) (fun j hj=>pairEnc_one _ j hj) (by omega) (by omega) hBq ?_
        intro g8 cap8 w8 own8 hm8 hat8 hlt8
        have HO8:=hId own8
        have m8:Mod (fun i=>blkOf A'=some i) w3.drew w8:=((Mod.refl _ _).alloc _).trans hm8
        have HM8:Hid (New w w8):=hId (HM.out.step m8 (fun i hi e=>by have:=HOF.out i e;omega))
        have HX8:=hId (HX.out.mod m8 (fun e=>by have:=HOL.out _ e;omega))
        have HXZ:=HSW.out _ (Mod.refl _ _)
        refine hK.out _ _ ⟨(HX8.out.cell 0).trans rfl,(HX8.out.cell 1).trans rfl,HX8.out.lt,?_,Nat.lt_of_lt_of_le HXZ.2.2.2.2 m8.size⟩ (fun hHeld=>?_)
        ·rw [← HXZ.2.2.2.1]
         refine m8.cell (p:=⟨gs,os+k,none⟩) HXZ.2.2.2.2 (fun e=>?_)
         have:=HOF.out gs e
         have:=HSB.out
         omega
        clear hK K hHeld own8 hm8 m8 HXZ
        try simp only [Act.put,lzt,lsz,lss]
        refine heldO_nil ?_
        go_wp2_with fail
        all_goals exact⟨⟨k+1,n'+1,cap8,some ⟨g8,0,none⟩,_,by omega,by omega,by go_num,rfl,by omega,HO8,HE1,HM8⟩,by simp [intOf];omega⟩
      ·have hk2':((pk:Int) == 2)=false:=by simpa using hk2
       have HE1:Hid (matchL ps segs []=matchL (ps.drop (k+1)) (segs.drop (k+1)) out):=hId (by rw [hat,if_neg (fun h=>h.elim (fun h=>hk1 h.1) (fun h=>hk2 h.1)),if_neg hk2])
       clear hat
       go_upto_region 7 with fail
       have hm2:New w1 w1:=Mod.refl _ _
       try clear y0
       try clear y1
       try clear yl
       obtain⟨z0,zl⟩:=HZ.out w1 hm2
       have HX2:=hId (HX.out.new2 hm2)
       have HO2:=hId (HO.out.new hm2)
       have HM2:Hid (New w w1):=hId (HM.out.trans hm2)
       clear HX HO HM
       have HX:=HX2
       have HO:=HO2
       have HM:=HM2
       clear HX2 HO2 HM2
       clear hm2
       have y0:=HX.out.cell 0
       have y1:=HX.out.cell 1
       have yl:=HX.out.lt
       simp only [lqt,lqz,lqs]at y0 y1
       go_quiet (fail)
       go_wp2_with fail
       try(go_quiet (fail))
       try(go_wp2_with fail)
       all_goals exact⟨⟨k+1,n',c',A',out,by omega,by omega,by go_num,rfl,by omega,hId (HO.out.drewN _),HE1,hId (HM.out.drewN _)⟩,by simp [intOf];omega⟩
  ·obtain rfl:k=np:=by omega
   have hend:=match_end (ps:=ps) (segs:=segs) (k:=k) (by have:=HPL.out;omega) (by have:=HSL.out;omega) out
   rw [← HE.out]at hend
   have hcc:=HO.out.ncap
   by_cases hkn:k=ns
   ·subst hkn
    have HR:Hid (matchL ps segs []=some out):=hId (by rw [hend,if_pos (by have:=HSL.out;omega)])
    clear hend
    go_wp2_with fail
    go_ret2
    exact RMatch.some HR.out HO.out.sl HM.out hcc
   ·have hkn':((ns:Int) == (k:Int))=false:=by simp;omega
    have HR:Hid (matchL ps segs []=none):=hId (by rw [hend,if_neg (by have:=HSL.out;omega)])
    clear hend
    go_wp2_with fail
    go_ret2
    exact RMatch.none HR.out HM.out hcc
theorem ref_partOf (s:ByteArray) (A:Option Addr) (n c:Nat) (ps:List PartD) (w:World) (hs:s.size≤100000) (hps:PSl w A n ps) (hn:n≤100000):
  Calls Tryz.prog 101 #[.string s,.slice A n c] w (RPt (partOf s ps true) w):=by
 cases h:Lib.hasPrefix s.data.toList [123]
 ·exact ref_partOf_words s A n c ps w hs h
 ·exact ref_partOf_param s A n c ps w (by omega) h hps hn
theorem prefix_head {l:List UInt8} {c:UInt8} (h:0<l.length):Lib.hasPrefix l [c]=decide (l[0]=c):=by
 cases l with
 | nil=>simp at h
 | cons a r=>
  simp only [Lib.hasPrefix,List.isPrefixOf,Bool.and_true,lgz]
  rw [Bool.eq_iff_iff]
  simp only [beq_iff_eq,decide_eq_true_eq]
  exact eq_comm
theorem tplOf_head {s:ByteArray} (h0:0<s.size):Lib.hasPrefix s.data.toList [47]=decide (s[0]=47):=by
 have hg:s[0]=s.data.toList[0]'h0:=rfl
 rw [hg]
 exact prefix_head h0
set_option maxRecDepth 100000 in
set_option maxHeartbeats 8000000 in
theorem ref_templateOf (s:ByteArray) (w:World) (hs:s.size≤100000) (hx:MaxLn w):
  Calls Tryz.prog 38 #[.string s] w (RTp (tplOf s) w):=by
 by_cases h0:s.size=0
 ·have hl:s.data.toList= []:=List.eq_nil_of_length_eq_zero h0
  have hse:(s.toList == [])=true:=by rw [ByteArray.toList_eq,hl];rfl
  have HQ:Hid (tplOf s=(3,[])):=hId (by unfold tplOf;rw [if_neg (by omega),hl];rfl)
  clear hl h0
  go_enter Tryz.func38,Tryz.ntmps38
  go_wp2_with fail
  go_ret2
  exact RTp.fault HQ.out (Mod.refl _ _)
 have hpos:0<s.size:=by omega
 have hse:(s.toList == [])=false:=by
  rw [ByteArray.toList_eq]
  simp only [beq_eq_false_iff_ne,ne_eq]
  intro h
  exact h0 (by have:s.data.toList.length=s.size:=rfl;rw [h]at this;simpa using this.symm)
 clear h0
 by_cases h1:1000<s.size
 ·have h1':(1000:Int)<(s.size:Int):=by omega
  have HQ:Hid (tplOf s=(3,[])):=hId (by unfold tplOf;rw [if_pos h1])
  go_enter Tryz.func38,Tryz.ntmps38
  go_wp2_with fail
  go_ret2
  exact RTp.fault HQ.out (Mod.refl _ _)
 have hQ:tplOf s=if Lib.hasPrefix s.data.toList [47]=false then(3,[]) else templateOf (pieces (s.extract 1 s.size) slB):=by unfold tplOf;rw [if_neg h1]
 rw [tplOf_head hpos]at hQ
 have h1':¬ (1000:Int)<(s.size:Int):=by omega
 have hcc:((s[0].toNat:Int) != 47)= !decide (s[0]=47):=by
  rw [Bool.eq_iff_iff]
  simp only [bne_iff_ne,ne_eq,Bool.not_eq_true',decide_eq_false_iff_not]
  constructor
  ·intro h e;rw [e]at h;exact h rfl
  ·intro h e;exact h (UInt8.toNat_inj.1 (by have:(47:UInt8).toNat=47:=rfl;omega))
 by_cases h2:s[0]=47
 rotate_left
 ·rw [decide_eq_false h2]at hcc hQ
  have HQ:Hid (tplOf s=(3,[])):=hId hQ
  have hcc:((s[0].toNat:Int) != 47)=true:=hcc
  clear hQ h2 h1
  go_enter Tryz.func38,Tryz.ntmps38
  go_wp2_with fail
  go_ret2
  exact RTp.fault HQ.out (Mod.refl _ _)
 ·rw [decide_eq_true h2,if_neg (by decide)]at hQ
  rw [decide_eq_true h2]at hcc
  have hcc:((s[0].toNat:Int) != 47)=false:=hcc
  have hez:(s.extract 1 s.size).size+1≤1000:=by simp only [ByteArray.size_extract];omega
  have hsp:=split_any (s.extract 1 s.size) 47 w (by omega) hx
  have hle:∀ x∈pieces (s.extract 1 s.size) slB,x.size+1≤1000:=fun x hx=>by have:=pieces_le hx;omega
  have hln:(pieces (s.extract 1 s.size) slB).length≤1001:=by
   rw [pieces_length (show 1≤(slB:ByteArray).size from Nat.le_refl _)]
   have:=Lib.countB_le slB (Nat.le_refl _) (s.extract 1 s.size).size (s.extract 1 s.size) (Nat.le_refl _)
   omega
  generalize pieces (s.extract 1 s.size) slB=segs at *
  have n1:(1:Int)≤(s.size:Int):=by omega
  have HQ:=hId hQ
  have HLE:=hId hle
  have hbL:=Blk.new w 9 (strCs segs)
  have hmL:New w (w.alloc (.cells (strCs segs) 9)):=(Mod.refl _ _).alloc _
  clear hQ hle hez h2 hx h1
  go_enter Tryz.func38,Tryz.ntmps38
  go_upto_region 4 with(first |(refine hsp.mono ?_;clear hsp;rintro e w' ⟨rfl,hw⟩;rw [hw];clear hw))
  generalize w.alloc (.cells (strCs segs) 9)=w1 at *
  have hLz:=hbL.lt
  generalize hwz:w.heap.size=L at *
  have HL1:=hId hbL
  have HM1:Hid (New w w1):=hId hmL
  clear hbL hmL hcc
  go_wp2_with fail
  go_loopw [5,27] (fun o i wr=>∃(k:Nat) (A:Option Addr) (c:Nat) (acc:List PartD),k≤segs.length∧i= .int .i64 k∧o= .slice A k c∧Hid (acc.length=k)∧Hid (partsOf segs []=partsOf (segs.drop k) acc)∧Hid (Own wr (L+1) 78 2 PartD.enc A k c acc)∧Hid (Blk wr L 9 (strCs segs))∧Hid (New w wr)) (fun _ i _=>segs.length -(intOf i).toNat)
  case atStart=>exact⟨0,none,0,[],Nat.zero_le _,rfl,rfl,hId rfl,hId rfl,hId Own.nil,HL1,HM1⟩
  case round=>
   clear HL1 HM1
   rename World=>wr
   obtain⟨k,A,c,acc,hk,rfl,rfl,HAC,HP,HO,HL,HM⟩:=hrel
   by_cases hlt:k<segs.length
   ·have hcell:=strs_at HL.out k hlt
    have hget:segs.getD k ByteArray.empty=segs[k]:=by simp [List.getD_eq_getElem?_getD,hlt]
    rw [hget]at hcell
    have hll:=HL.out.lt
    have hxz:=HLE.out _ (List.getElem_mem hlt)
    have hpl:=partOf_last segs[k] acc (decide (k+1=segs.length))
    have hsp1:(partOf segs[k] acc (decide (k+1=segs.length))).1≠0→tplOf s=((partOf segs[k] acc (decide (k+1=segs.length))).1,[]):=fun h=>HQ.out.trans (partsOf_stop hlt HP.out h)
    have hst1:(partOf segs[k] acc (decide (k+1=segs.length))).1=0→partsOf segs []=partsOf (segs.drop (k+1)) (acc++ [(partOf segs[k] acc (decide (k+1=segs.length))).2]):=fun h=>partsOf_step hlt HP.out h
    have hcall:Calls Tryz.prog 101 #[.string segs[k],.slice A k c] wr (fun e w'=>e= .returned (.tuple #[.agg #[.int .i64 (partOf segs[k] acc true).2.kind,.string (partOf segs[k] acc true).2.name],.int .i64 (partOf segs[k] acc true).1])∧New wr w'):=ref_partOf segs[k] A k c acc wr (by omega) HO.out.sl (by omega)
    have hlast:(decide (k+1=segs.length)=false)↔(k:Int)<(segs.length:Int) -1:=by
     rw [decide_eq_false_iff_not];omega
    have hb1:(0:Int)≤k:=by omega
    have hb2:(k:Int)<segs.length:=by omega
    generalize segs[k]=x at *
    generalize partOf x acc (decide (k+1=segs.length))=ql at *
    generalize decide (k+1=segs.length)=lst at *
    have heta:partOf x acc true=((partOf x acc true).1,⟨(partOf x acc true).2.kind,(partOf x acc true).2.name⟩):=rfl
    generalize (partOf x acc true).2.kind=qk at *
    generalize (partOf x acc true).2.name=qn at *
    generalize (partOf x acc true).1=qe at *
    rw [heta]at hpl
    have HSP:=hId hsp1
    have HST:=hId hst1
    have HPL:=hId hpl
    have HOF:Hid (∀ g,blkOf A=some g→L+1≤g):=hId (fun g e=>HO.out.farB g e)
    clear hget hxz HP hsp1 hst1 hpl heta
    go_upto_region 8 with(fail)
    go_wp2_with fail
    refine hcall.mono ?_
    clear hcall hcell
    rintro e w2 ⟨rfl,hm2⟩
    have HM2:Hid (New w w2):=hId (HM.out.trans hm2)
    have HL2:=hId (HL.out.new2 hm2)
    have HO2:=hId (HO.out.new hm2)
    have hz2:=hm2.size
    clear HM HL HO hm2
    go_upto_region 9 with(fail)
    have hbp:=Blk.new w2 78 #[.int .i64 qk,.string qn]
    have hmp:New w2 (w2.alloc (.cells #[.int .i64 qk,.string qn] 78)):=(Mod.refl _ _).alloc _
    have HM3:Hid (New w _):=hId (HM2.out.trans hmp)
    have HL3:=hId (HL2.out.new2 hmp)
    have HO3:=hId (HO2.out.new hmp)
    have hz3:=hmp.size
    clear HM2 HL2 HO2 hmp
    generalize w2.alloc (.cells #[.int .i64 qk,.string qn] 78)=w3 at *
    generalize w2.heap.size=pb at *
    have d0:=hbp.cell 0
    have d1:=hbp.cell 1
    have dl:=hbp.lt
    simp only [lqt,lqz,lqs]at d0 d1
    clear hbp
    by_cases hqe:qe=0
    ·subst hqe
     by_cases hord:qk=3∧lst=false
     ·obtain⟨rfl,hlf⟩:=hord
      have hls:=hlast.1 hlf
      have HE:Hid (tplOf s=(7,[])):=hId (by
       have hp:=HPL.out
       rw [if_pos ⟨rfl,rfl,hlf⟩]at hp
       have:=HSP.out (by rw [hp];decide)
       rw [hp]at this;exact this)
      clear hlast hlf
      go_wp2_with fail
      go_ret2
      exact RTp.fault HE.out HM3.out
     ·have HS1:Hid (partsOf segs []=partsOf (segs.drop (k+1)) (acc++ [⟨qk,qn⟩])):=hId (by
       have hp:=HPL.out
       rw [if_neg (fun h=>hord ⟨h.2.1,h.2.2⟩)]at hp
       have:=HST.out (by rw [hp])
       rw [hp]at this;exact this)
      by_cases hk3:qk=3
      ·subst hk3
       have hls:¬ (k:Int)<(segs.length:Int) -1:=fun h=>hord ⟨rfl,hlast.2 h⟩
       clear hord hlast
       go_wp2_with (at_builtin;refine wpList_push rfl _ _ _ rfl 24 Tryz.underlying72 einfo_part rfl (HO3.out.alloc _) ⟨3,qn⟩ w3.heap.size rfl (Blk.new _ _ _) (fun j hj=>PartD.one _ j hj) (by omega) (by omega) (by simp;omega) ?_;intro g8 cap8 w8 own8 hm8 hat8 hlt8)
       have HO8:=hId own8
       have HM8:Hid (New w w8):=hId ((HM3.out.alloc _).step hm8 (fun i hi e=>by have:=HOF.out i e;omega))
       have HL8:=hId ((HL3.out.new2 ((Mod.refl _ _).alloc _)).mod hm8 (fun e=>by have:=HOF.out L e;omega))
       clear own8 hm8
       go_roundw
       case rel=>exact⟨k+1,some ⟨g8,0,none⟩,cap8,acc++ [⟨3,qn⟩],by omega,by go_num,rfl,hId (by have:=HAC.out;simp;omega),HS1,HO8,HL8,HM8⟩
       case measure=>simp [intOf];omega
      ·have hk3':((qk:Int) == 3)=false:=by simpa using hk3
       clear hord hlast
       go_wp2_with (at_builtin;refine wpList_push rfl _ _ _ rfl 24 Tryz.underlying72 einfo_part rfl (HO3.out.alloc _) ⟨qk,qn⟩ w3.heap.size rfl (Blk.new _ _ _) (fun j hj=>PartD.one _ j hj) (by omega) (by omega) (by simp;omega) ?_;intro g8 cap8 w8 own8 hm8 hat8 hlt8)
       have HO8:=hId own8
       have HM8:Hid (New w w8):=hId ((HM3.out.alloc _).step hm8 (fun i hi e=>by have:=HOF.out i e;omega))
       have HL8:=hId ((HL3.out.new2 ((Mod.refl _ _).alloc _)).mod hm8 (fun e=>by have:=HOF.out L e;omega))
       clear own8 hm8
       go_roundw
       case rel=>exact⟨k+1,some ⟨g8,0,none⟩,cap8,acc++ [⟨qk,qn⟩],by omega,by go_num,rfl,hId (by have:=HAC.out;simp;omega),HS1,HO8,HL8,HM8⟩
       case measure=>simp [intOf];omega
    ·have hq0:((qe:Int) == 0)=false:=by simpa using hqe
     have hq1:((qe:Int) != 0)=true:=by simpa using hqe
     have HE:Hid (tplOf s=(qe,[])):=hId (by
      have hp:=HPL.out
      rw [if_neg (fun h=>hqe h.1)]at hp
      have:=HSP.out (by rw [hp];exact hqe)
      rw [hp]at this;exact this)
     clear hqe hlast
     go_wp2_with fail
     go_ret2
     exact RTp.fault HE.out HM3.out
   ·obtain rfl:k=segs.length:=by omega
    have HE:=hId (HQ.out.trans (partsOf_end HP.out))
    have hal:=HAC.out
    by_cases h30:30<segs.length
    ·have h30':(30:Int)<(segs.length:Int):=by omega
     have HE2:Hid (tplOf s=(2,[])):=hId (by rw [HE.out,if_pos (by omega)])
     clear hal
     go_wp2_with fail
     go_ret2
     exact RTp.fault HE2.out HM.out
    ·have h30':¬ (30:Int)<(segs.length:Int):=by omega
     have HE2:Hid (tplOf s=(0,acc)):=hId (by rw [HE.out,if_neg (by omega)])
     clear hal
     go_wp2_with fail
     go_ret2
     exact⟨A,segs.length,c,by rw [HE2.out];rfl,by rw [HE2.out];exact HO.out.sl,HM.out,by omega⟩
end Go.Proofs.YtnlloaimplgjnaaGreatDoor
