/- Several texts in one. (1) slices.Contains of pairs (a part of a row). Conditions: at most 1000000 pairs. (2) The functions that normal requests hand to DeleteFunc and SortFunc: empty pairs, the order of pairs. No conditions. (3) Pairs sorted: slices.SortFunc with the program's comparison, slices.SortStableFunc of a short row with the reference's: the row reads as the one sorted list. Conditions: at most 100000 pairs; for the stable one at most 19. -/
import Derived.Test.YtnlloaimplgjnaaGreatDoorChgLawGrp
import Derived.Test.YtnlloaimplgjnaaGreatDoorQryPGrp
import Derived.Deep.RegionHeld3
import Derived.Sort.LotA
namespace Go.Proofs.YtnlloaimplgjnaaGreatDoor
open Go.RowKit
set_option linter.unusedVariables false
set_option linter.unusedSimpArgs false
theorem hasPair_take {l:List PairD} {k:Nat} (h:k<l.length) (p:PairD):hasPair (l.take (k+1)) p=(hasPair (l.take k) p||(decide (l[k].1=p.1)&&decide (l[k].2=p.2))):=by
 unfold hasPair
 rw [List.take_succ_eq_append_getElem h,List.any_append]
 simp
theorem hasPair_more {l:List PairD} {j k:Nat} (h:j≤k) (p:PairD) (hp:hasPair (l.take j) p=true):hasPair (l.take k) p=true:=by
 unfold hasPair at hp ⊢
 rw [List.any_eq_true]at hp ⊢
 obtain⟨q,h1,h2⟩:=hp
 exact⟨q,(List.take_sublist_take_left h).subset h1,h2⟩
theorem ba_beq (a b:ByteArray):(a.toList == b.toList)=decide (a=b):=by
 rw [ByteArray.toList_eq,ByteArray.toList_eq,Bool.eq_iff_iff]
 simp only [beq_iff_eq,decide_eq_true_eq]
 exact⟨fun h=>ByteArray.ext (Array.toList_inj.mp h),fun h=>by rw [h]⟩
set_option maxHeartbeats 1000000 in
theorem index_pair (A:Option Addr) (n c k:Nat) (l:List PairD) (p:PairD) (w:World) (h:QSl w A n l) (hk:k≤n) (hn:n≤1000000):
  Calls Tryz.prog 103 #[.slice A k c,pairVal p] w fun e w'=>(∃ i:Int,e= .returned (.int .i64 i)∧decide (0≤i)=hasPair (l.take k) p)∧New w w':=by
 have hl:=h.1
 have HS:=hId h
 have hb:=Blk.new w 52 #[.string p.1,.string p.2]
 have m1:New w (w.alloc (.cells #[.string p.1,.string p.2] 52)):=(Mod.refl _ _).alloc _
 obtain⟨pn,pv⟩:=p
 simp only [pairVal]at hb m1 ⊢
 go_enter Tryz.func103,Tryz.ntmps103
 go_upto_region 1 with(fail)
 have HSL:=hId (h.new m1)
 have HB:=hId hb
 have HM:=hId m1
 clear h hb m1
 generalize w.alloc (.cells #[.string pn,.string pv] 52)=w1 at *
 generalize w.heap.size=pb at *
 go_wp2_with fail
 go_loopw [5,8] (fun _ i wr=>∃ j:Nat,j≤k∧i= .int .i64 j∧Hid (hasPair (l.take j) (pn,pv)=false)∧∃ q,wr=w1.drewN q) (fun _ i _=>k -(intOf i).toNat)
 case atStart=>exact⟨0,Nat.zero_le _,rfl,hId rfl,0,rfl⟩
 case round=>
  obtain⟨j,hj,rfl,HH,q,rfl⟩:=hrel
  by_cases hlt:j<k
  ·have hjl:j<l.length:=by omega
   have HT:=hId (hasPair_take hjl (pn,pv))
   obtain⟨g1,o1,hA1,t1,k1⟩:=HSL.out.2 (by omega)
   subst hA1
   have a0:=k1 j hjl 0 (by omega)
   have a1:=k1 j hjl 1 (by omega)
   have b0:=HB.out.cell 0
   have b1:=HB.out.cell 1
   have bl:=HB.out.lt
   simp only [lqt,lqz,lqs]at b0 b1
   simp only [pairEnc,Nat.add_zero]at a0 a1
   have l1:=t1.lt
   have hb1:(0:Int)≤j:=by omega
   have hb2:(j:Int)<k:=by omega
   clear k1
   generalize l[j]=z at *
   obtain⟨zn,zv⟩:=z
   simp only at a0 a1 HT
   have e1:=ba_beq pn zn
   have e2:=ba_beq pv zv
   by_cases h1:zn=pn
   ·rw [decide_eq_true h1.symm]at e1
    by_cases h2:zv=pv
    ·rw [decide_eq_true h2.symm]at e2
     have HY:Hid (hasPair (l.take k) (pn,pv)=true):=hId (hasPair_more (show j+1≤k by omega) _ (by rw [HT.out,h1,h2];simp))
     clear h1 h2
     go_wp2_with fail
     go_quiet (fail)
     go_wp2_with fail
     go_ret
     exact⟨⟨j,rfl,by rw [HY.out];simp⟩,HM.out.trans (((Mod.refl _ _).drewN _).drewN _)⟩
    ·rw [decide_eq_false (fun e=>h2 e.symm)]at e2
     have HY:Hid (hasPair (l.take (j+1)) (pn,pv)=false):=hId (by rw [HT.out,HH.out];simp [h2])
     clear h1 h2
     go_wp2_with fail
     go_quiet (fail)
     go_wp2_with fail
     exact⟨⟨j+1,by omega,by go_num,HY,_,rfl⟩,by simp [intOf];omega⟩
   ·rw [decide_eq_false (fun e=>h1 e.symm)]at e1
    have HY:Hid (hasPair (l.take (j+1)) (pn,pv)=false):=hId (by rw [HT.out,HH.out];simp [h1])
    clear h1
    go_wp2_with fail
    go_quiet (fail)
    go_wp2_with fail
    exact⟨⟨j+1,by omega,by go_num,HY,_,rfl⟩,by simp [intOf];omega⟩
  ·obtain rfl:j=k:=by omega
   go_wp2_with fail
   go_ret
   exact⟨⟨-1,rfl,by rw [HH.out];rfl⟩,HM.out.trans ((Mod.refl _ _).drewN _)⟩
set_option maxHeartbeats 1000000 in
theorem contains_pair (A:Option Addr) (n c k:Nat) (l:List PairD) (p:PairD) (w:World) (h:QSl w A n l) (hk:k≤n) (hn:n≤1000000):
  Calls Tryz.prog 42 #[.slice A k c,pairVal p] w fun e w'=>e= .returned (.bool (hasPair (l.take k) p))∧New w w':=by
 have hb:=Blk.new w 52 #[.string p.1,.string p.2]
 have m1:New w (w.alloc (.cells #[.string p.1,.string p.2] 52)):=(Mod.refl _ _).alloc _
 have q:=index_pair A n c k l p _ (h.new m1) hk hn
 obtain⟨pn,pv⟩:=p
 simp only [pairVal]at hb m1 q ⊢
 have b0:=hb.cell 0
 have b1:=hb.cell 1
 have bl:=hb.lt
 simp only [lqt,lqz,lqs]at b0 b1
 have HM:=hId m1
 clear h hb m1
 go_enter Tryz.func42,Tryz.ntmps42
 go_wp2_with fail
 refine q.mono ?_
 clear q
 rintro e w2 ⟨⟨i,rfl,hi⟩,m2⟩
 have HM2:=hId (HM.out.trans m2)
 clear m2
 go_wp2_with fail
 go_ret
 exact⟨ret_bool (by first | exact hi | rfl),HM2.out⟩
set_option maxRecDepth 100000 in
set_option maxHeartbeats 1000000 in
theorem rt_needsFault (A:Option Addr) (n c:Nat) (l:List PairD) (w:World) (h:QSl w A n l) (hcap:n≤c) (hn:n≤200000) (hz:∀ p∈l,p.1.size≤200000∧p.2.size≤200000):
  Calls Tryz.prog 77 #[.slice A n c] w fun e w'=>e= .returned (.int .i64 (needsF l))∧New w w':=by
 have hl:=h.1
 by_cases hb:20<n
 ·have hb':(20:Int)<n:=by omega
  have HR:Hid (needsF l=2):=hId (by unfold needsF;rw [if_pos (by omega)])
  go_enter Tryz.func77,Tryz.ntmps77
  go_wp2_with fail
  go_ret
  exact⟨ret_int HR.out.symm,Mod.refl _ _⟩
 ·have hb':¬ (20:Int)<n:=by omega
  have HR:Hid (needsF l=eachF needF (l.take 0) (l.drop 0)):=hId (by unfold needsF;rw [if_neg (by omega)];rfl)
  have HS:=hId h
  have HZ:=hId hz
  have HL:=hId hl
  clear h hz hl hb
  go_enter Tryz.func77,Tryz.ntmps77
  go_wp2_with fail
  go_loopw [10] (fun i wr=>∃ k:Nat,k≤n∧i= .int .i64 k∧Hid (needsF l=eachF needF (l.take k) (l.drop k))∧Hid (New w wr)) (fun i _=>n -(intOf i).toNat)
  case atStart=>exact⟨0,Nat.zero_le _,rfl,HR,hId (Mod.refl _ _)⟩
  clear HR
  case round=>
   rename World=>wr
   obtain⟨k,hk,rfl,HR,HM⟩:=hrel
   by_cases hlt:k<n
   ·have hkl:k<l.length:=by have:=HL.out;omega
    have HST:=hId (eachF_step needF hkl)
    obtain⟨g,o,hA,htb,hc0⟩:=(HS.out.new HM.out).2 (by omega)
    have hct:=fun W (h:New w W)=>contains_pair A n c k l l[k] W (HS.out.new h) (by omega) (by omega)
    have hsz:=HZ.out _ (List.getElem_mem hkl)
    subst hA
    have hgl:=htb.lt
    have a0:=hc0 k hkl 0 (by omega)
    have a1:=hc0 k hkl 1 (by omega)
    simp only [pairEnc,Nat.add_zero]at a0 a1
    have HFF:Hid (needF (l.take k) l[k]=if !(isTok l[k].1&&noUp l[k].1.data.toList) then 5 else if !isFld l[k].2 then 3 else if hasPair (l.take k) l[k] then 6 else 0):=hId rfl
    have HCT:=hId hct
    clear hct htb hc0
    generalize l[k]=x at *
    obtain⟨xn,xv⟩:=x
    simp only at a0 a1 HFF hsz
    generalize hasPair (l.take k) (xn,xv)=cn at *
    have hb2:(0:Int)≤k:=by omega
    have hb3:(k:Int)<n:=by omega
    have hb4:(k:Int)≤c:=by omega
    have bp:=Blk.new wr 52 #[.string xn,.string xv]
    have mp:New wr (wr.alloc (.cells #[.string xn,.string xv] 52)):=(Mod.refl _ _).alloc _
    go_upto_region 6 with(fail)
    have HMP:=hId (HM.out.trans mp)
    have HBP:=hId bp
    clear a0 a1 bp mp hgl
    generalize wr.alloc (.cells #[.string xn,.string xv] 52)=w1 at *
    generalize wr.heap.size=pb at *
    have HSP:Hid (∀ W,New w1 W→W.cell? ⟨pb,0,none⟩=some (.string xn)∧W.cell? ⟨pb,1,none⟩=some (.string xv)∧pb<W.heap.size):=hId (fun W hW=>by
     have h:=HBP.out.mod hW (fun e=>e)
     exact⟨(h.cell 0).trans rfl,(h.cell 1).trans rfl,h.lt⟩)
    have hn1:New w1 w1.drew:=(Mod.refl _ _).drew
    have q:=msg_isToken xn w1.drew (by unfold maxLen;omega)
    have qu:=fun W (h:isTok xn=true)=>Tryz.strings_ToLower_ascii xn W (by omega) (tok_ascii_all h)
    have HU:=hId qu
    have hbq:=lower_beq xn
    generalize (⟨(Lib.toLowerA xn.data.toList).toArray⟩:ByteArray)=T at *
    generalize noUp xn.data.toList=nu at *
    clear qu
    go_cut [15] (fun s wx=>s= .bool (!(isTok xn&&nu))∧Hid (New w1 wx))
    case first=>
     have HTK:Hid (∀ b,isTok xn=b→(!(isTok xn&&nu))= !(b&&nu)):=hId (fun b e=>by rw [e])
     cases hp:isTok xn
     ·rw [hp]at q
      have HQ:=hId (HTK.out _ hp)
      clear hp HTK HU
      refine wp_region_held_ord (New w1) [2,7] [0,1,2,3,4,5,6,8,9,7,10] (by kernel_rfl) (by kernel_rfl) (fun _ _ d _ _ h=>by cases d <;> exact h) ?_ (fun hHeld=>?_)
      ·exact hn1
      simp only [List.length_cons,List.length_nil,List.drop_succ_cons,List.drop_zero]
      refine heldO_take ?_ (by rfl) (by rfl) (by rfl) (fun w hSw=>?_) ?_
      rotate_left
      ·(have hq:=HSP.out w hSw);(try simp only [lgt,lgz,lgs]);go_simp;any_goals (with_reducible rfl)
      simp only [Act.put,lgt,lgz,lgs,lzt,lsz,lss]
      refine heldO_take ?_ (by rfl) (by rfl) (by rfl) (fun w hSw=>?_) ?_
      rotate_left
      ·(have hq:=HSP.out w hSw);(try simp only [lgt,lgz,lgs]);go_simp;any_goals (with_reducible rfl)
      simp only [Act.put,lgt,lgz,lgs,lzt,lsz,lss]
      refine heldQ_step (by rfl) (by rfl) (by rfl) (fun K hK=>?_)
      go_simp
      refine q.mono ?_
      clear q
      rintro e w' ⟨rfl,rfl⟩
      go_wp2_with fail
      refine hK.out _ _ hn1 (fun hHeld=>?_)
      clear hK K hHeld
      try simp only [Act.put,lzt,lsz,lss]
      refine heldO_take ?_ (by rfl) (by rfl) (by rfl) (fun w hSw=>?_) ?_
      rotate_left
      ·(have hq:=HSP.out w hSw);(try simp only [lgt,lgz,lgs]);go_simp;any_goals (with_reducible rfl)
      simp only [Act.put,lgt,lgz,lgs,lzt,lsz,lss]
      refine heldO_take ?_ (by rfl) (by rfl) (by rfl) (fun w hSw=>?_) ?_
      rotate_left
      ·(have hq:=HSP.out w hSw);(try simp only [lgt,lgz,lgs]);go_simp;any_goals (with_reducible rfl)
      simp only [Act.put,lgt,lgz,lgs,lzt,lsz,lss]
      refine heldQ_skip (by rfl) (by rfl) (by rfl) ?_
      simp only [Act.put,lgt,lgz,lgs,lzt,lsz,lss]
      refine heldQ_skip (by rfl) (by rfl) (by rfl) ?_
      simp only [Act.put,lgt,lgz,lgs,lzt,lsz,lss]
      refine heldQ_skip (by rfl) (by rfl) (by rfl) ?_
      simp only [Act.put,lgt,lgz,lgs,lzt,lsz,lss]
      refine heldQ_skip (by rfl) (by rfl) (by rfl) ?_
      simp only [Act.put,lgt,lgz,lgs,lzt,lsz,lss]
      refine heldQ_skipC (by rfl) (by rfl) (by rfl) (by assumption) ?_
      simp only [Act.put,lgt,lgz,lgs,lzt,lsz,lss]
      refine heldQ_skip (by rfl) (by rfl) (by rfl) ?_
      simp only [Act.put,lgt,lgz,lgs,lzt,lsz,lss]
      refine heldO_nil ?_
      go_wp2_with fail
      go_meet
      case rel=>exact⟨by rw [HQ.out];rfl,hId hn1⟩
     ·have HUU:=hId (fun W=>HU.out W hp)
      rw [hp]at q
      have HQ:=hId (HTK.out _ hp)
      clear hp HTK HU
      refine wp_region_held_ord (New w1) [2,7] [0,1,2,3,4,5,6,8,9,7,10] (by kernel_rfl) (by kernel_rfl) (fun _ _ d _ _ h=>by cases d <;> exact h) ?_ (fun hHeld=>?_)
      ·exact hn1
      simp only [List.length_cons,List.length_nil,List.drop_succ_cons,List.drop_zero]
      refine heldO_take ?_ (by rfl) (by rfl) (by rfl) (fun w hSw=>?_) ?_
      rotate_left
      ·(have hq:=HSP.out w hSw);(try simp only [lgt,lgz,lgs]);go_simp;any_goals (with_reducible rfl)
      simp only [Act.put,lgt,lgz,lgs,lzt,lsz,lss]
      refine heldO_take ?_ (by rfl) (by rfl) (by rfl) (fun w hSw=>?_) ?_
      rotate_left
      ·(have hq:=HSP.out w hSw);(try simp only [lgt,lgz,lgs]);go_simp;any_goals (with_reducible rfl)
      simp only [Act.put,lgt,lgz,lgs,lzt,lsz,lss]
      refine heldQ_step (by rfl) (by rfl) (by rfl) (fun K hK=>?_)
      go_simp
      refine q.mono ?_
      clear q
      rintro e w' ⟨rfl,rfl⟩
      go_wp2_with fail
      refine hK.out _ _ hn1 (fun hHeld=>?_)
      clear hK K hHeld
      try simp only [Act.put,lzt,lsz,lss]
      refine heldO_take ?_ (by rfl) (by rfl) (by rfl) (fun w hSw=>?_) ?_
      rotate_left
      ·(have hq:=HSP.out w hSw);(try simp only [lgt,lgz,lgs]);go_simp;any_goals (with_reducible rfl)
      simp only [Act.put,lgt,lgz,lgs,lzt,lsz,lss]
      refine heldO_take ?_ (by rfl) (by rfl) (by rfl) (fun w hSw=>?_) ?_
      rotate_left
      ·(have hq:=HSP.out w hSw);(try simp only [lgt,lgz,lgs]);go_simp;any_goals (with_reducible rfl)
      simp only [Act.put,lgt,lgz,lgs,lzt,lsz,lss]
      refine heldO_take ?_ (by rfl) (by rfl) (by rfl) (fun w hSw=>?_) ?_
      rotate_left
      ·(have hq:=HSP.out w hSw);(try simp only [lgt,lgz,lgs]);go_simp;any_goals (with_reducible rfl)
      simp only [Act.put,lgt,lgz,lgs,lzt,lsz,lss]
      refine heldO_take ?_ (by rfl) (by rfl) (by rfl) (fun w hSw=>?_) ?_
      rotate_left
      ·(have hq:=HSP.out w hSw);(try simp only [lgt,lgz,lgs]);go_simp;any_goals (with_reducible rfl)
      simp only [Act.put,lgt,lgz,lgs,lzt,lsz,lss]
      refine heldO_take ?_ (by rfl) (by rfl) (by rfl) (fun w hSw=>?_) ?_
      rotate_left
      ·(have hq:=HSP.out w hSw);(try simp only [lgt,lgz,lgs]);go_simp;any_goals (with_reducible rfl)
      simp only [Act.put,lgt,lgz,lgs,lzt,lsz,lss]
      refine heldO_take ?_ (by rfl) (by rfl) (by rfl) (fun w hSw=>?_) ?_
      rotate_left
      ·(have hq:=HSP.out w hSw);(try simp only [lgt,lgz,lgs]);go_simp;any_goals (with_reducible rfl)
      simp only [Act.put,lgt,lgz,lgs,lzt,lsz,lss]
      refine heldQ_step (by rfl) (by rfl) (by rfl) (fun K hK=>?_)
      go_simp
      refine(HUU.out _).mono ?_
      rintro e w3 ⟨rfl,m3⟩
      have hn3:New w1 w3:=hn1.trans (Mod.of_below m3)
      go_wp2_with fail
      refine hK.out _ _ hn3 (fun hHeld=>?_)
      clear hK K hHeld m3
      try simp only [Act.put,lzt,lsz,lss]
      refine heldO_take ?_ (by rfl) (by rfl) (by rfl) (fun w hSw=>?_) ?_
      rotate_left
      ·(have hq:=HSP.out w hSw);(try simp only [lgt,lgz,lgs]);go_simp;any_goals (with_reducible rfl)
      simp only [Act.put,lgt,lgz,lgs,lzt,lsz,lss]
      refine heldO_nil ?_
      go_wp2_with fail
      go_meet
      case rel=>exact⟨by rw [HQ.out];cases nu <;> rfl,hId hn3⟩
    case rest=>
     rename World=>w2
     obtain⟨rfl,HM2⟩:=hcut
     clear q HU hbq hn1
     cases hp:(isTok xn&&nu)
     ·have HE:Hid (needsF l=5):=hId (by rw [HR.out,HST.out,HFF.out,hp];rfl)
      clear hp
      go_wp2_with fail
      go_ret
      exact⟨ret_int HE.out.symm,HMP.out.trans HM2.out⟩
     ·rw [hp]at HFF
      simp only [Bool.not_true,Bool.false_eq_true,if_false]at HFF
      clear hp
      obtain⟨p0,p1,pl⟩:=HSP.out _ HM2.out
      have qf:=msg_isField xv w2 (by omega)
      cases hf:isFld xv
      ·have HE:Hid (needsF l=3):=hId (by rw [HR.out,HST.out,HFF.out,hf];rfl)
       rw [hf]at qf
       clear hf
       go_wp2_with fail
       refine qf.mono ?_
       clear qf
       rintro e w3 ⟨rfl,m3⟩
       have HM3:=hId ((HMP.out.trans HM2.out).trans m3)
       go_wp2_with fail
       go_ret
       exact⟨ret_int HE.out.symm,HM3.out⟩
      ·rw [hf]at HFF qf
       simp only [Bool.not_true,Bool.false_eq_true,if_false]at HFF
       clear hf
       go_wp2_with fail
       refine qf.mono ?_
       clear qf
       rintro e w3 ⟨rfl,m3⟩
       have HM3:=hId (HM2.out.trans m3)
       clear m3 p0 p1 pl
       go_upto_region 10 with(fail)
       have HSQ:Hid (∀ W,New w3 W→W.cell? ⟨pb,0,none⟩=some (.string xn)∧W.cell? ⟨pb,1,none⟩=some (.string xv)∧pb<W.heap.size):=hId (fun W hW=>HSP.out W (HM3.out.trans hW))
       have hn3:New w3 w3.drew:=(Mod.refl _ _).drew
       have hct:=HCT.out w3.drew ((HMP.out.trans HM3.out).trans hn3)
       simp only [pairVal]at hct
       refine wp_region_held_ord (New w3) [4] [0,1,2,3,4] (by kernel_rfl) (by kernel_rfl) (fun _ _ d _ _ h=>by cases d <;> exact h) ?_ (fun hHeld=>?_)
       ·exact hn3
       simp only [List.length_cons,List.length_nil,List.drop_succ_cons,List.drop_zero]
       refine heldO_take ?_ (by rfl) (by rfl) (by rfl) (fun w hSw=>?_) ?_
       rotate_left
       ·(have hq:=HSQ.out w hSw);(try simp only [lgt,lgz,lgs]);go_simp;any_goals (with_reducible rfl)
       simp only [Act.put,lgt,lgz,lgs,lzt,lsz,lss]
       refine heldO_take ?_ (by rfl) (by rfl) (by rfl) (fun w hSw=>?_) ?_
       rotate_left
       ·(have hq:=HSQ.out w hSw);(try simp only [lgt,lgz,lgs]);go_simp;any_goals (with_reducible rfl)
       simp only [Act.put,lgt,lgz,lgs,lzt,lsz,lss]
       refine heldO_take ?_ (by rfl) (by rfl) (by rfl) (fun w hSw=>?_) ?_
       rotate_left
       ·(have hq:=HSQ.out w hSw);(try simp only [lgt,lgz,lgs]);go_simp;any_goals (with_reducible rfl)
       simp only [Act.put,lgt,lgz,lgs,lzt,lsz,lss]
       refine heldO_take ?_ (by rfl) (by rfl) (by rfl) (fun w hSw=>?_) ?_
       rotate_left
       ·(have hq:=HSQ.out w hSw);(try simp only [lgt,lgz,lgs]);go_simp;any_goals (with_reducible rfl)
       simp only [Act.put,lgt,lgz,lgs,lzt,lsz,lss]
       refine heldQ_step (by rfl) (by rfl) (by rfl) (fun K hK=>?_)
       go_simp
       refine hct.mono ?_
       clear hct
       rintro e w4 ⟨rfl,m4⟩
       have HN4:=hId (hn3.trans m4)
       have HM4:=hId ((HMP.out.trans HM3.out).trans (hn3.trans m4))
       go_wp2_with fail
       refine hK.out _ _ HN4.out (fun hHeld=>?_)
       clear hK K hHeld m4 hn3
       try simp only [Act.put,lzt,lsz,lss]
       refine heldO_nil ?_
       cases cn
       ·have HE:Hid (needsF l=eachF needF (l.take (k+1)) (l.drop (k+1))):=hId (by rw [HR.out,HST.out,HFF.out];rfl)
        go_wp2_with fail
        exact⟨⟨k+1,by omega,by go_num,HE,HM4⟩,by simp [intOf];omega⟩
       ·have HE:Hid (needsF l=6):=hId (by rw [HR.out,HST.out,HFF.out];rfl)
        go_wp2_with fail
        go_ret
        exact⟨ret_int HE.out.symm,HM4.out⟩
   ·obtain rfl:k=n:=by omega
    have HE:Hid (needsF l=0):=hId (by have:=HL.out;rw [HR.out,←this];exact eachF_end _ _)
    go_wp2_with fail
    go_ret
    exact⟨ret_int HE.out.symm,HM.out⟩
end Go.Proofs.YtnlloaimplgjnaaGreatDoor
namespace Go.Proofs.YtnlloaimplgjnaaGreatDoor
open Go.RowKit Go.Shelf Go.Sort
set_option linter.unusedVariables false
set_option linter.unusedSimpArgs false
theorem enters_nrm1 (args:Array Value) (w:World):(callFunc 147 args).run Tryz.prog w= .ok (.enter 147 args) w:=by
 go_simp
theorem enters_cmpP (args:Array Value) (w:World):(callFunc 149 args).run Tryz.prog w= .ok (.enter 149 args) w:=by
 go_simp
theorem enters_nof1 (args:Array Value) (w:World):(callFunc 112 args).run Tryz.prog w= .ok (.enter 112 args) w:=by
 go_simp
theorem enters_nof2 (args:Array Value) (w:World):(callFunc 114 args).run Tryz.prog w= .ok (.enter 114 args) w:=by
 go_simp
set_option maxHeartbeats 600000 in
theorem nrm_empty (p:PairD) (w:World):Calls Tryz.prog 147 #[pairVal p] w fun e w'=>e= .returned (.bool (emptyP p))∧New w w':=by
 obtain⟨pn,pv⟩:=p
 unfold pairVal emptyP
 simp only
 have hm:New w (w.alloc (.cells #[.string pn,.string pv] 52)):=(Mod.refl _ _).alloc _
 have hb:=Blk.new w 52 #[.string pn,.string pv]
 have HM:=hId hm
 have k1:=str_nil pn
 have k2:=str_nil pv
 generalize decide (pn=⟨#[]⟩)=E1 at *
 generalize decide (pv=⟨#[]⟩)=E2 at *
 clear hm
 go_enter Tryz.func147,Tryz.ntmps147
 go_upto_region 1 with(fail)
 generalize w.alloc (.cells #[.string pn,.string pv] 52)=w1 at *
 generalize w.heap.size=xb at *
 have e0:=hb.cell 0
 have e1:=hb.cell 1
 have el:=hb.lt
 simp only [lqt,lqz,lqs]at e0 e1
 clear hb
 cases E1 <;> cases E2 <;> (go_wp2_with fail;go_ret;exact⟨ret_bool rfl,HM.out⟩)
set_option maxHeartbeats 600000 in
theorem nof_empty (p:PairD) (w:World) (hz:p.1.size≤1000000∧p.2.size≤1000000):Calls Tryz.prog 112 #[pairVal p] w fun e w'=>e= .returned (.bool (emptyP p))∧New w w':=by
 obtain⟨pn,pv⟩:=p
 unfold pairVal
 simp only at hz ⊢
 have hm:New w (w.alloc (.cells #[.string pn,.string pv] 52)):=(Mod.refl _ _).alloc _
 have hb:=Blk.new w 52 #[.string pn,.string pv]
 have HM:=hId hm
 have hE:((pn++pv).toList == [])=emptyP (pn,pv):=by
  rw [str_nil]
  unfold emptyP
  rw [Bool.eq_iff_iff]
  simp only [decide_eq_true_eq,Bool.and_eq_true]
  constructor
  ·intro h
   have:=congrArg ByteArray.size h
   rw [ByteArray.size_append]at this
   have e0:(⟨#[]⟩:ByteArray).size=0:=rfl
   rw [e0]at this
   exact⟨ByteArray.ext (Array.eq_empty_of_size_eq_zero (by show pn.size=0;omega)),ByteArray.ext (Array.eq_empty_of_size_eq_zero (by show pv.size=0;omega))⟩
  ·rintro⟨h1,h2⟩
   rw [h1,h2]
   rfl
 generalize emptyP (pn,pv)=E at *
 have hsz:¬ 9223372036854775807<pn.size+pv.size:=by omega
 clear hm
 go_enter Tryz.func112,Tryz.ntmps112
 go_upto_region 1 with(fail)
 generalize w.alloc (.cells #[.string pn,.string pv] 52)=w1 at *
 generalize w.heap.size=xb at *
 have e0:=hb.cell 0
 have e1:=hb.cell 1
 have el:=hb.lt
 simp only [lqt,lqz,lqs]at e0 e1
 clear hb
 go_wp2_with fail
 go_ret
 exact⟨ret_bool (by first | rfl | simp [hE]),HM.out⟩
set_option maxHeartbeats 1000000 in
theorem cmpPairs_g (a b:PairD) (w:World):Calls Tryz.prog 149 #[pairVal a,pairVal b] w fun e w'=>e= .returned (.int .i64 (cmpQ a b))∧∃ q os,w'=grow (w.drewN q) os:=by
 obtain⟨an,av⟩:=a
 obtain⟨bn,bv⟩:=b
 unfold pairVal
 simp only
 have HG:Hid (∃ q os,(w.alloc (.cells #[.string an,.string av] 52)).alloc (.cells #[.string bn,.string bv] 52)=grow (w.drewN q) os):=hId ⟨0,_,by rw [alloc_eq_grow,alloc_eq_grow,grow_grow];rfl⟩
 have hx:=Blk.new w 52 #[.string an,.string av]
 have z1:(w.alloc (.cells #[.string an,.string av] 52)).heap.size=w.heap.size+1:=by simp
 have s1:=fun W=>Tryz.strings_Compare an bn W
 have s2:=fun W=>Tryz.strings_Compare av bv W
 have HC:Hid (cmpQ (an,av) (bn,bv)=if an=bn then Lib.compareBytes av.data.toList bv.data.toList else Lib.compareBytes an.data.toList bn.data.toList):=hId rfl
 have hbe:=ba_beq an bn
 generalize cmpQ (an,av) (bn,bv)=C at *
 generalize Lib.compareBytes av.data.toList bv.data.toList=C2 at *
 generalize Lib.compareBytes an.data.toList bn.data.toList=C1 at *
 go_enter Tryz.func149,Tryz.ntmps149
 go_upto_region 1 with(fail)
 generalize w.alloc (.cells #[.string an,.string av] 52)=w1 at *
 have hy:=Blk.new w1 52 #[.string bn,.string bv]
 have hm2:New w1 (w1.alloc (.cells #[.string bn,.string bv] 52)):=(Mod.refl _ _).alloc _
 generalize w1.alloc (.cells #[.string bn,.string bv] 52)=w2 at *
 rw [z1]at hy
 have hxx:=hx.mod hm2 (fun e=>e)
 have b0:=hxx.cell 0
 have b1:=hxx.cell 1
 have bl:=hxx.lt
 have c0:=hy.cell 0
 have c1:=hy.cell 1
 have cl:=hy.lt
 simp only [lqt,lqz,lqs]at b0 b1 c0 c1
 clear hx hxx hy hm2 z1
 by_cases h:an=bn
 ·have HR:=hId (HC.out.trans (if_pos h))
  have hne:(an.toList != bn.toList)=false:=by rw [bne,hbe,decide_eq_true h];rfl
  rw [decide_eq_true h]at hbe
  clear h HC s1
  go_wp2_with fail
  refine(s2 _).mono ?_
  clear s2
  rintro e w3 ⟨rfl,rfl⟩
  go_wp2_with fail
  go_ret
  exact⟨ret_int HR.out.symm,HG.out⟩
 ·have HR:=hId (HC.out.trans (if_neg h))
  have hne:(an.toList != bn.toList)=true:=by rw [bne,hbe,decide_eq_false h];rfl
  rw [decide_eq_false h]at hbe
  clear h HC s2
  go_wp2_with fail
  refine(s1 _).mono ?_
  clear s1
  rintro e w3 ⟨rfl,rfl⟩
  go_wp2_with fail
  go_ret
  exact⟨ret_int HR.out.symm,HG.out⟩
set_option maxHeartbeats 1000000 in
theorem cmpOf_g (a b:PairD) (w:World):Calls Tryz.prog 114 #[pairVal a,pairVal b] w fun e w'=>e= .returned (.int .i64 (cmpQ a b))∧∃ q os,w'=grow (w.drewN q) os:=by
 obtain⟨an,av⟩:=a
 obtain⟨bn,bv⟩:=b
 unfold pairVal
 simp only
 have HG:Hid (∃ q os,(w.alloc (.cells #[.string an,.string av] 52)).alloc (.cells #[.string bn,.string bv] 52)=grow (w.drewN q) os):=hId ⟨0,_,by rw [alloc_eq_grow,alloc_eq_grow,grow_grow];rfl⟩
 have hx:=Blk.new w 52 #[.string an,.string av]
 have z1:(w.alloc (.cells #[.string an,.string av] 52)).heap.size=w.heap.size+1:=by simp
 have s1:=fun W=>Tryz.strings_Compare an bn W
 have s2:=fun W=>Tryz.strings_Compare av bv W
 have HC:Hid (cmpQ (an,av) (bn,bv)=if an=bn then Lib.compareBytes av.data.toList bv.data.toList else Lib.compareBytes an.data.toList bn.data.toList):=hId rfl
 have hbe:=ba_beq an bn
 generalize cmpQ (an,av) (bn,bv)=C at *
 generalize Lib.compareBytes av.data.toList bv.data.toList=C2 at *
 generalize Lib.compareBytes an.data.toList bn.data.toList=C1 at *
 go_enter Tryz.func114,Tryz.ntmps114
 go_upto_region 1 with(fail)
 generalize w.alloc (.cells #[.string an,.string av] 52)=w1 at *
 have hy:=Blk.new w1 52 #[.string bn,.string bv]
 have hm2:New w1 (w1.alloc (.cells #[.string bn,.string bv] 52)):=(Mod.refl _ _).alloc _
 generalize w1.alloc (.cells #[.string bn,.string bv] 52)=w2 at *
 rw [z1]at hy
 have hxx:=hx.mod hm2 (fun e=>e)
 have b0:=hxx.cell 0
 have b1:=hxx.cell 1
 have bl:=hxx.lt
 have c0:=hy.cell 0
 have c1:=hy.cell 1
 have cl:=hy.lt
 simp only [lqt,lqz,lqs]at b0 b1 c0 c1
 clear hx hxx hy hm2 z1
 by_cases h:an=bn
 ·have HR:=hId (HC.out.trans (if_pos h))
  have hne:(an.toList != bn.toList)=false:=by rw [bne,hbe,decide_eq_true h];rfl
  rw [decide_eq_true h]at hbe
  clear h HC s1
  go_wp2_with fail
  refine(s2 _).mono ?_
  clear s2
  rintro e w3 ⟨rfl,rfl⟩
  go_wp2_with fail
  go_ret
  exact⟨ret_int HR.out.symm,HG.out⟩
 ·have HR:=hId (HC.out.trans (if_neg h))
  have hne:(an.toList != bn.toList)=true:=by rw [bne,hbe,decide_eq_false h];rfl
  rw [decide_eq_false h]at hbe
  clear h HC s2
  go_wp2_with fail
  refine(s1 _).mono ?_
  clear s1
  rintro e w3 ⟨rfl,rfl⟩
  go_wp2_with fail
  go_ret
  exact⟨ret_int HR.out.symm,HG.out⟩
end Go.Proofs.YtnlloaimplgjnaaGreatDoor
namespace Go.Proofs.YtnlloaimplgjnaaGreatDoor
open Go.RowKit Go.Shelf Go.Sort
set_option linter.unusedVariables false
set_option linter.unusedSimpArgs false
section
set_option maxHeartbeats 400000
theorem insSortQ_nil (F:Nat) (w:World):Calls Tryz.prog 230 #[.slice none 0 0,.int .i64 0,.int .i64 0,.func (.func F) #[] #[]] w fun e w'=>e= .returned (.tuple #[])∧New w w':=by
 go_enter Tryz.func230,Tryz.ntmps230
 go_wp2
 refine wp_loop_rounds 1 ?_
 rw [rounds_succ]
 go_wp2_with fail
 go_end0
 exact⟨rfl,(by with_reducible (repeat (first | exact Mod.refl _ _ | refine Mod.drewN ?_ _ | refine Mod.drew ?_ | refine Mod.alloc ?_ _)))⟩
theorem pdqQ_nil (F:Nat) (w:World):Calls Tryz.prog 204 #[.slice none 0 0,.int .i64 0,.int .i64 0,.int .i64 0,.func (.func F) #[] #[]] w fun e w'=>e= .returned (.tuple #[])∧New w w':=by
 have hi:=fun W=>insSortQ_nil F W
 go_enter Tryz.func204,Tryz.ntmps204
 go_wp2
 refine wp_loop_rounds 1 ?_
 rw [rounds_succ]
 go_wp2_with fail
 refine(hi _).mono ?_
 clear hi
 rintro e w2 ⟨rfl,h1⟩
 have H1:=hId h1
 clear h1
 go_wp2_with fail
 (try simp only [Exit.inBlock,Exit.then])
 refine bodyPost_ret (results_none rfl _ _ _) rfl ?_
 exact⟨rfl,H1.out⟩
theorem sortQ_nil (F:Nat) (w:World):Calls Tryz.prog 148 #[.slice none 0 0,.func (.func F) #[] #[]] w fun e w'=>e= .returned (.tuple #[])∧New w w':=by
 have hi:=fun W=>pdqQ_nil F W
 have hb:=Tryz.bits_Len (0:Int) w (by omega) (by omega)
 go_enter Tryz.func148,Tryz.ntmps148
 go_wp2_with fail
 refine hb.mono ?_
 clear hb
 rintro e w2 ⟨rfl,rfl⟩
 go_wp2_with fail
 refine(hi _).mono ?_
 clear hi
 rintro e w3 ⟨rfl,h1⟩
 have H1:=hId h1
 clear h1
 go_wp2_with fail
 go_end0
 exact⟨rfl,H1.out⟩
end
/-- what sorting leaves of a row of pairs -/
def RSrtQ (w:World) (B:Nat) (A:Option Addr) (n c:Nat) (ms:List PairD) (e:Ending) (w':World):Prop:=e= .returned (.tuple #[])∧Own w' B 52 2 pairEnc A n c (ms.mergeSort leQ)∧Mod (fun k=>blkOf A=some k) w w'
theorem pairwise_of_sorted {d':Array PairD} {n:Nat} (hdn:d'.size=n) (hso:SortedIn (ltOf cmpQ) 0 n d'):d'.toList.Pairwise fun a b=>¬ cmpQ b a<0:=
 List.pairwise_iff_getElem.2 (fun i j hi hj hij=>by
  have hi2:i<d'.size:=by simpa using hi
  have hj2:j<d'.size:=by simpa using hj
  have h3:=hso i j (by omega) hij (by omega)
  rw [getElem!_pos d' i hi2,getElem!_pos d' j hj2]at h3
  simpa [ltOf]using h3)
theorem perm_of_permIn {ms:List PairD} {d':Array PairD} {n:Nat} (hn:ms.length=n) (h:PermIn 0 n ms.toArray d'):d'.size=n∧d'.toList.Perm ms:=by
 obtain⟨hps,-,hpp⟩:=h
 have hdn:d'.size=n:=by rw [hps];simpa using hn
 have e1:(d'.extract 0 n).toList=d'.toList:=by simp;exact List.take_of_length_le (by simp [hdn])
 have e2:(ms.toArray.extract 0 n).toList=ms:=by simp;exact List.take_of_length_le (by omega)
 rw [e1,e2]at hpp
 exact⟨hdn,hpp⟩
theorem sortedQ_own {w:World} {B g n c q:Nat} {os:Array Obj} {ms:List PairD} {d':Array PairD} (ho:Own w B 52 2 pairEnc (some ⟨g,0,none⟩) n c ms) (hp:PermIn 0 n ms.toArray d') (hs:SortedIn (ltOf cmpQ) 0 n d'):
  RSrtQ w B (some ⟨g,0,none⟩) n c ms (.returned (.tuple #[])) (sortWorldK cellsQ 2 w g 0 q d' os):=by
 obtain⟨hdn,hpp⟩:=perm_of_permIn ho.1 hp
 have hd:=sorted_pairs hpp (pairwise_of_sorted hdn hs)
 obtain⟨h1,h2⟩:=ownQ_sorted (q:=q) (os:=os) d' ho hd (by rw [← hd];simpa using hdn)
 exact⟨rfl,h1,h2.mono (fun k _ e=>by subst e;rfl)⟩
theorem cellsQ_val (a:PairD):Value.agg (cellsQ a).toArray=pairVal a:=by
 simp [encL,List.range_succ,List.range_zero,pairEnc,pairVal]
set_option maxHeartbeats 1000000 in
theorem sortFunc_q (w:World) (B:Nat) (A:Option Addr) (n c:Nat) (ms:List PairD) (ho:Own w B 52 2 pairEnc A n c ms) (hn:n≤100000):
  Calls Tryz.prog 148 #[.slice A n c,.func (.func 149) #[] #[]] w (RSrtQ w B A n c ms):=by
 have hl:=ho.1
 rcases ho.blk with⟨rfl,rfl,rfl⟩ |⟨g,rfl,-,-⟩
 ·refine(sortQ_nil _ w).mono ?_
  rintro e w' ⟨rfl,hm⟩
  have:ms= []:=List.eq_nil_of_length_eq_zero hl
  subst this
  exact⟨rfl,by rw [List.mergeSort_nil];exact Own.nil,hm.mono (fun _ _ e=>e.elim)⟩
 have hlt:g<w.heap.size:=by
  obtain⟨cur,hb,-⟩:=ho.row
  exact hb.lt
 have h:=Tryz.slices_SortFunc_pair 2 (fun w=>by kernel_rfl) (fun w=>by kernel_rfl) cellsQ (fun x=>encL_length 2 pairEnc x) (fun y v hv=>by
  simp only [encL,List.mem_map,List.mem_range]at hv
  obtain⟨j,hj,rfl⟩:=hv
  exact pairEnc_one y j hj) cmpQ swo_pair 149 #[] g 0 c ms.toArray w enters_cmpP (fun m os dk hdk a b=>?_) (holdsKQ_own ho) hlt (by simp at hl ⊢;omega)
 rotate_left
 ·have h2:=cmpPairs_g a b (sortWorldK cellsQ 2 w g 0 m dk os)
  rw [cellsQ_val,cellsQ_val]
  exact h2
 have hsz:ms.toArray.size=n:=by simpa using hl
 rw [hsz]at h
 refine h.mono ?_
 rintro e w' ⟨rfl,d',q,os,hp,hs,rfl⟩
 exact sortedQ_own ho hp hs
set_option maxHeartbeats 1000000 in
theorem insOf_q (w:World) (B:Nat) (A:Option Addr) (n c:Nat) (ms:List PairD) (ho:Own w B 52 2 pairEnc A n c ms) (hn:n≤100000):
  Calls Tryz.prog 230 #[.slice A n c,.int .i64 0,.int .i64 (n:Int),.func (.func 114) #[] #[]] w (RSrtQ w B A n c ms):=by
 have hl:=ho.1
 rcases ho.blk with⟨rfl,rfl,rfl⟩ |⟨g,rfl,-,-⟩
 ·refine(insSortQ_nil _ w).mono ?_
  rintro e w' ⟨rfl,hm⟩
  have:ms= []:=List.eq_nil_of_length_eq_zero hl
  subst this
  exact⟨rfl,by rw [List.mergeSort_nil];exact Own.nil,hm.mono (fun _ _ e=>e.elim)⟩
 have hlt:g<w.heap.size:=by
  obtain⟨cur,hb,-⟩:=ho.row
  exact hb.lt
 have h:=Tryz.slices_insertion_pair 2 (fun w=>by kernel_rfl) (fun w=>by kernel_rfl) cellsQ (fun x=>encL_length 2 pairEnc x) (fun y v hv=>by
  simp only [encL,List.mem_map,List.mem_range]at hv
  obtain⟨j,hj,rfl⟩:=hv
  exact pairEnc_one y j hj) cmpQ 114 #[] g 0 c 0 n ms.toArray w enters_nof2 (fun m os dk hdk a b=>?_) (holdsKQ_own ho) hlt (Nat.zero_le _) (by simp;omega) (by simp at hl ⊢;omega)
 rotate_left
 ·have h2:=cmpOf_g a b (sortWorldK cellsQ 2 w g 0 m dk os)
  rw [cellsQ_val,cellsQ_val]
  exact h2
 have hsz:ms.toArray.size=n:=by simpa using hl
 rw [hsz]at h
 refine h.mono ?_
 rintro e w' ⟨rfl,q,os,rfl⟩
 obtain⟨hp,hs⟩:=insertionSort_holds (lt:=ltOf cmpQ) swo_pair ms.toArray 0 n (Nat.zero_le _) (by omega)
 exact sortedQ_own ho hp hs
set_option maxHeartbeats 1000000 in
theorem stableOf_q (w:World) (B:Nat) (A:Option Addr) (n c:Nat) (ms:List PairD) (ho:Own w B 52 2 pairEnc A n c ms) (hn:n≤19):
  Calls Tryz.prog 181 #[.slice A n c,.int .i64 (n:Int),.func (.func 114) #[] #[]] w (RSrtQ w B A n c ms):=by
 have hi:=insOf_q w B A n c ms ho (by omega)
 have h1:¬ (20:Int)≤(n:Int):=by omega
 have h2:¬ (20:Int)<(n:Int):=by omega
 clear ho hn
 go_enter Tryz.func181,Tryz.ntmps181
 go_wp2
 refine wp_loop_rounds 1 ?_
 rw [rounds_succ]
 go_wp2_with fail
 refine hi.mono ?_
 clear hi
 rintro e w2 ⟨rfl,k1,k2⟩
 have K:Hid (RSrtQ w B A n c ms (.returned (.tuple #[])) w2):=hId ⟨rfl,k1,k2⟩
 clear k1 k2
 go_wp2
 refine wp_loop_rounds 1 ?_
 rw [rounds_succ]
 go_wp2_with fail
 go_end0
 exact K.out
set_option maxHeartbeats 1000000 in
theorem stableFunc_q (w:World) (B:Nat) (A:Option Addr) (n c:Nat) (ms:List PairD) (ho:Own w B 52 2 pairEnc A n c ms) (hn:n≤19):
  Calls Tryz.prog 113 #[.slice A n c,.func (.func 114) #[] #[]] w (RSrtQ w B A n c ms):=by
 have hi:=stableOf_q w B A n c ms ho hn
 clear ho hn
 go_enter Tryz.func113,Tryz.ntmps113
 go_wp2_with fail
 refine hi.mono ?_
 clear hi
 rintro e w2 ⟨rfl,k1,k2⟩
 have K:Hid (RSrtQ w B A n c ms (.returned (.tuple #[])) w2):=hId ⟨rfl,k1,k2⟩
 clear k1 k2
 go_wp2_with fail
 go_end0
 exact K.out
end Go.Proofs.YtnlloaimplgjnaaGreatDoor
