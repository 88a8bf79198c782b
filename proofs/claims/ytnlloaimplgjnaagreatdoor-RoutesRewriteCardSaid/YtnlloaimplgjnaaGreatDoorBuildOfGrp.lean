/- Several texts in one. (1) The reference's path that a template makes of parameters (gateref1.BuildOf). Conditions: texts of modest size; the library's variables lie as they should. (2) A request as a route sends it on: the reference's (gateref1.RewriteOf). Conditions: texts of modest size; the library's variables lie as they should. (3) slices.IndexFunc and ContainsFunc of pairs, over a closure that asks anything. Printed by mkhdrq.py. Conditions: at most 100000 of them. -/
import Derived.Test.YtnlloaimplgjnaaGreatDoorBuildGrp
import Derived.Test.YtnlloaimplgjnaaGreatDoorJoinPGrp
import Derived.Test.YtnlloaimplgjnaaGreatDoorMatchedGrp
import Derived.Test.YtnlloaimplgjnaaGreatDoorHitRGrp
import Derived.Test.YtnlloaimplgjnaaGreatDoorNormBGrp
import Derived.Test.YtnlloaimplgjnaaGreatDoorPairGrp
import Derived.Test.YtnlloaimplgjnaaGreatDoorSeg3Grp
namespace Go.Proofs.YtnlloaimplgjnaaGreatDoor
open Go.RowKit
set_option linter.unusedVariables false
set_option linter.unusedSimpArgs false
/-- the parameters as the entries of a map -/
def pmap (l:List PairD):List (ByteArray×Value):=l.map fun p=>(p.1,Value.string p.2)
theorem aget_pmap (l:List PairD) (x:ByteArray):aget (pmap l) x=(lookP l x).map Value.string:=by
 induction l with
 | nil=>rfl
 | cons p l ih=>
  unfold pmap at ih ⊢
  rw [List.map_cons,aget_cons,ih]
  unfold lookP
  rw [List.find?_cons]
  by_cases h:p.1=x <;> simp [h]
theorem pmap_put {l:List PairD} {k:Nat} (hk:k<l.length) (h:lookP (l.take k) l[k].1=none):aput (pmap (l.take k)) l[k].1 (.string l[k].2)=pmap (l.take (k+1)):=by
 unfold aput
 rw [if_neg (by rw [aget_pmap,h];decide),List.take_succ_eq_append_getElem hk]
 unfold pmap
 rw [List.map_append]
 rfl
/-- the map's answer -/
theorem pmap_look {w:World} {mb:Nat} {l:List PairD} (h:MapOf strKeys w mb (pmap l)) (x:ByteArray):
  ∃ sv hb,(Instr.lookup 152 (.map (some mb)) (.string x) true).run Tryz.prog w= .ok (.tuple #[.string sv,.bool hb]) w∧((hb=false∧lookP l x=none)∨(hb=true∧lookP l x=some sv)):=by
 have hl:=run_lookup_ok (P:=Tryz.prog) (K:=strKeys) Tryz.underlying152 Tryz.underlying9 (z:=.string ⟨#[]⟩) (by kernel_rfl) h x
 rw [aget_pmap]at hl
 cases hv:lookP l x with
 | none=>
  rw [hv]at hl
  exact⟨⟨#[]⟩,false,hl,.inl ⟨rfl,rfl⟩⟩
 | some v=>
  rw [hv]at hl
  exact⟨v,true,hl,.inr ⟨rfl,rfl⟩⟩
theorem empty_is (v:ByteArray):v.toList.isEmpty=decide (v=emptyB):=by
 have h:=const_eq v []
 have e:v.toList.isEmpty=(v.toList == []):=by cases v.toList <;> rfl
 exact e.trans h
set_option maxRecDepth 100000 in
set_option maxHeartbeats 700000 in
theorem ref1_BuildOf (t:ByteArray) (A:Option Addr) (n c:Nat) (l:List PairD) (w:World) (ht:t.size≤100000) (hq:QSl w A n l) (hn:n≤100000) (hnc:n≤c) (hz:∀ x∈l,x.2.size≤3100) (hp1:(tplOf t).2.length≤30) (hp2:∀ p∈(tplOf t).2,p.name.size≤999) (hx:MaxLn w) (he:ErrSyn w):
  Calls Tryz.prog 49 #[.string t,.slice A n c] w (RTxt (buildOf t l) w):=by
 have htp:=ref_templateOf t w ht hx
 have hql:=hq.1
 by_cases h1:(tplOf t).1=0
 rotate_left
 ·have HQ:Hid (buildOf t l=((tplOf t).1,[])):=hId (by unfold buildOf;rw [if_pos h1])
  generalize tplOf t=q at *
  obtain⟨q1,q2⟩:=q
  simp only at h1 HQ
  have h1':((q1:Int) != 0)=true:=by simpa using h1
  clear h1 hq
  go_enter Tryz.func49,Tryz.ntmps49
  go_wp2_with fail
  refine htp.mono ?_
  clear htp
  rintro e w1 ⟨A,n,c,rfl,-,hm,-⟩
  have HM:=hId hm
  clear hm
  simp only
  go_wp2_with fail
  go_ret2
  exact RTxt.fault HQ.out HM.out
 have hQ:buildOf t l=if 30<l.length then(2,[]) else if twiceP l then(6,[]) else
   if (builtL (tplOf t).2 l []).1≠0 then((builtL (tplOf t).2 l []).1,[]) else joinP (builtL (tplOf t).2 l []).2:=by
  unfold buildOf;rw [if_neg (fun h=>h h1)]
 have HQ:=hId hQ
 clear hQ
 generalize tplOf t=q at *
 obtain⟨q1,ps⟩:=q
 simp only at h1 HQ
 subst h1
 by_cases h30:30<n
 ·have h30':(30:Int)<(n:Int):=by omega
  have HR:Hid (buildOf t l=(2,[])):=hId (by rw [HQ.out,if_pos (by omega)])
  clear hq
  go_enter Tryz.func49,Tryz.ntmps49
  go_wp2_with fail
  refine htp.mono ?_
  clear htp
  rintro e w1 ⟨Ap,np,cp,rfl,-,hm,-⟩
  have HM:=hId hm
  clear hm
  simp only
  go_wp2_with fail
  go_ret2
  exact RTxt.fault HR.out HM.out
 have h30':¬ (30:Int)<(n:Int):=by omega
 have HQ1:Hid (buildOf t l=if twiceP l then(6,[]) else if (builtL ps l []).1≠0 then((builtL ps l []).1,[]) else joinP (builtL ps l []).2):=hId (by rw [HQ.out,if_neg (by omega)])
 have HQS:=hId hq
 have HZ:=hId hz
 have HX:=hId hx
 have HES:=hId he
 have HLN:=hId hql
 have HP1:=hId hp1
 have HP2:=hId hp2
 clear hq hz hx he hql HQ hp1 hp2
 go_enter Tryz.func49,Tryz.ntmps49
 go_wp2_with fail
 refine htp.mono ?_
 clear htp
 rintro e w1 ⟨Ap,np,cp,rfl,hps,hm,hnp⟩
 have HM1:=hId hm
 have HPS:=hId hps
 have hnp30:np≤30:=by have:=hps.1;have h2:=HP1.out;(try simp only at this);(try simp only at h2);omega
 clear hm hps
 simp only
 have hmm:=@run_makeMap Tryz.prog
 go_upto_region 8 with fail
 clear hmm
 have HMP0:Hid (MapOf strKeys (w1.alloc (.map #[] 0)) w1.heap.size (pmap (l.take 0))):=hId (MapOf.made (heap_alloc_new w1 _))
 have HM0:Hid (New w1 (w1.alloc (.map #[] 0))):=hId ((Mod.refl _ _).alloc _)
 generalize w1.alloc (.map #[] 0)=w2 at *
 have HMB:Hid (w1.heap.size≤w1.heap.size):=hId (Nat.le_refl _)
 generalize hmb:w1.heap.size=mb at *
 have HMB:Hid (∀ i,i<w1.heap.size→¬ mb≤i):=hId (fun i hi=>by omega)
 clear hmb
 go_wp2_with fail
 go_loopw [34] (fun i wr=>∃ k:Nat,k≤n∧i= .int .i64 k∧Hid (onceP l k)∧Hid (MapOf strKeys wr mb (pmap (l.take k)))∧Hid (New w1 wr)) (fun i _=>n -(intOf i).toNat)
 case atStart=>exact⟨0,Nat.zero_le _,rfl,hId rfl,HMP0,HM0⟩
 case round=>
  clear HMP0 HM0
  rename World=>wr
  obtain⟨k,hk,rfl,HO,HMP,HM⟩:=hrel
  by_cases hlt:k<n
  ·have hkl:k<l.length:=by have:=HLN.out;omega
   have hnx:=HO.out.next hkl
   have hht:=fun v=>onceP.hit (v:=v) hkl
   have hput:=pmap_put hkl
   obtain⟨g,o,hA,htb,hc⟩:=(HQS.out.new (HM1.out.trans HM.out)).2 (by omega)
   have hgl:=htb.lt
   have c0:=hc k hkl 0 (by decide)
   have c1:=hc k hkl 1 (by decide)
   generalize l[k]=p at *
   generalize l.take k=before at *
   obtain⟨pn,pv⟩:=p
   simp only [pairEnc,Nat.add_zero]at c0 c1 hnx hht hput
   have HNX:=hId hnx
   have HHT:=hId hht
   have HPUT:=hId hput
   clear hc htb hnx hht hput
   subst hA
   have hb1:(0:Int)≤k:=by omega
   have hb2:(k:Int)<n:=by omega
   have hbx:=Blk.new wr 52 #[.string pn,.string pv]
   have hmx:New wr (wr.alloc (.cells #[.string pn,.string pv] 52)):=(Mod.refl _ _).alloc _
   go_upto_region 10 with fail
   have HXB:=hId hbx
   have HM2:Hid (New w1 _):=hId (HM.out.trans hmx)
   have HMP2:Hid (MapOf strKeys _ mb _):=hId (HMP.out.mod hmx (fun e=>e))
   clear hbx hmx HM HMP c0 c1
   generalize wr.alloc (.cells #[.string pn,.string pv] 52)=w3 at *
   generalize wr.heap.size=xb at *
   have y0:=HXB.out.cell 0
   have y1:=HXB.out.cell 1
   have yl:=HXB.out.lt
   simp only [lqt,lqz,lqs]at y0 y1
   obtain⟨sv,hb,hlk,⟨rfl,hv⟩ |⟨rfl,hv⟩⟩:=pmap_look HMP2.out pn
   ·obtain⟨w4,hins,hmap,honly,hz4⟩:=run_mapUpdate (P:=Tryz.prog) (t:=152) Tryz.underlying152 Tryz.underlying9 HMP2.out pn (.string pv)
    simp only [strKeys]at hins
    have HMP4:Hid (MapOf strKeys w4 mb (pmap (l.take (k+1)))):=hId (by rw [← HPUT.out hv];exact hmap)
    have HM4:Hid (New w1 w4):=hId (HM2.out.step honly (fun i hi e=>by have:=HMB.out i hi;omega))
    have HO1:=hId (HNX.out hv)
    clear hv hmap honly hz4
    go_wp2_with fail
    go_roundw
    case rel=>exact⟨k+1,by omega,by go_num,HO1,HMP4,HM4⟩
    case measure=>simp [intOf];omega
   ·have HR:Hid (buildOf t l=(6,[])):=hId (by rw [HQ1.out,if_pos (HHT.out sv hv)])
    clear hv
    go_wp2_with fail
    go_ret2
    exact RTxt.fault HR.out (HM1.out.trans HM2.out)
  ·obtain rfl:n=k:=by omega
   have htw:twiceP l=false:=onceP.all (by have:=HO.out;rw [← HLN.out]at this;exact this)
   have HQ2:Hid (buildOf t l=if (builtL ps l []).1≠0 then((builtL ps l []).1,[]) else joinP (builtL ps l []).2):=hId (by rw [HQ1.out,htw];rfl)
   have HMPA:Hid (MapOf strKeys wr mb (pmap l)):=hId (by have:=HMP.out;rw [← HLN.out,List.take_length]at this;exact this)
   have HPL:=hId HPS.out.1
   have HMZ:=HM
   clear HM HO htw HQ1 HMP
   go_wp2_with fail
   go_loopw [13,54] (fun o' i W=>∃(k n' c':Nat) (A':Option Addr) (out:List ByteArray),k≤np∧i= .int .i64 k∧o'= .slice A' n' c'∧n'≤100 * k∧Hid (wtL out≤3110 * k)∧Hid (Own W (mb+1) 9 1 sEnc A' n' c' out)∧Hid (builtL ps l []=builtL (ps.drop k) l out)∧Hid (MapOf strKeys W mb (pmap l))∧Hid (New w1 W)) (fun _ i _=>np -(intOf i).toNat)
   case atStart=>exact⟨0,0,0,none,[],Nat.zero_le _,rfl,rfl,Nat.zero_le _,hId (Nat.zero_le _),hId Own.nil,hId rfl,HMPA,HMZ⟩
   case round=>
    clear HMZ HMPA
    rename World=>wi
    obtain⟨k,n',c',A',out,hk,rfl,rfl,hn',HWT,HO,HE,HMP,HM⟩:=hrel
    by_cases hlt:k<np
    ·have hkp:k<ps.length:=by have:=HPL.out;(try simp only at this);omega
     have hat:=buildL_at (params:=l) hkp out
     rw [← HE.out]at hat
     obtain⟨g,o,hA,htb,hc⟩:=(HPS.out.new HM.out).2 (by omega)
     have hgl:=htb.lt
     have c0:=hc k hkp 0 (by decide)
     have c1:=hc k hkp 1 (by decide)
     have hnm:=HP2.out _ (List.getElem_mem hkp)
     have hok:=fun h=>builtP_ok (l:=l) h hnm HZ.out
     generalize ps[k]=p at *
     have HAT:=hId hat
     have HOK:=hId hok
     clear hc htb hat hok hnm
     obtain⟨pk,pn⟩:=p
     simp only [PartD.enc,Nat.add_zero]at c0 c1
     subst hA
     have hb1:(0:Int)≤k:=by omega
     have hb2:(k:Int)<np:=by omega
     have hbx:=Blk.new wi 78 #[.int .i64 pk,.string pn]
     have hmx:New wi (wi.alloc (.cells #[.int .i64 pk,.string pn] 78)):=(Mod.refl _ _).alloc _
     go_upto_region 19 with fail
     have HXB:=hId hbx
     have HM2:Hid (New w1 _):=hId (HM.out.trans hmx)
     have HO2:=hId (HO.out.new hmx)
     have HMP2:Hid (MapOf strKeys _ mb _):=hId (HMP.out.mod hmx (fun e=>e))
     clear hbx hmx HM HO HMP c0 c1
     generalize wi.alloc (.cells #[.int .i64 pk,.string pn] 78)=w3 at *
     generalize wi.heap.size=xb at *
     have y0:=HXB.out.cell 0
     have y1:=HXB.out.cell 1
     have yl:=HXB.out.lt
     simp only [lqt,lqz,lqs]at y0 y1
     obtain⟨sv,hb,hlk,hcase⟩:=pmap_look HMP2.out pn
     have HCASE:=hId hcase
     clear hcase
     by_cases hk1:pk=1
     ·subst hk1
      have hB:builtP ⟨1,pn⟩ l=(0,[pn]):=by unfold builtP;rw [if_pos rfl]
      rw [hB]at HAT HOK
      have HE1:Hid (builtL ps l []=builtL (ps.drop (k+1)) l (out++ [pn])):=hId (by rw [HAT.out,if_neg (by simp)])
      have HWT1:Hid (wtL (out++ [pn])≤3110 * (k+1)):=hId (by rw [wtL_append];have h1:=HWT.out;have h2:=(HOK.out rfl).2;simp only at h2;omega)
      clear hB HAT HOK HCASE
      have hbs:=Blk.new w3 9 #[.string pn]
      have hms:New w3 (w3.alloc (.cells #[.string pn] 9)):=(Mod.refl _ _).alloc _
      have hoA:=HO2.out.new hms
      have HMA:=hId (HM2.out.trans hms)
      have HPA:=hId (HMP2.out.mod hms (fun e=>e))
      have hszA:mb+1≤(w3.alloc (.cells #[.string pn] 9)).heap.size:=HPA.out.lt
      have HOF:Hid (∀ g',blkOf A'=some g'→mb+1≤g'):=hId (fun g' e=>HO2.out.farP g' e)
      go_wp2_with (at_builtin;refine wpList_push rfl _ _ _ rfl 16 Tryz.underlying26 einfo_str rfl hoA pn w3.heap.size rfl hbs (fun j hj=>sEnc_one _ j hj) (by omega) (by omega) hszA ?_;intro g8 cap8 w8 own8 hm8 hat8 hlt8)
      have HO8:=hId own8
      have HM8:Hid (New w1 w8):=hId (HMA.out.step hm8 (fun i hi e=>by have h1:=HOF.out i e;have h2:=HMB.out i hi;omega))
      have HP8:Hid (MapOf strKeys w8 mb (pmap l)):=hId (HPA.out.mod hm8 (fun e=>by have:=HOF.out _ e;omega))
      clear own8 hm8
      go_roundw
      case rel=>exact⟨k+1,n'+1,cap8,_,_,by omega,by go_num,rfl,by omega,HWT1,HO8,HE1,HP8,HM8⟩
      case measure=>simp [intOf];omega
     ·have hk1':((pk:Int) == 1)=false:=by simpa using hk1
      rcases HCASE.out with⟨rfl,hv⟩ |⟨rfl,hv⟩
      ·have HB:Hid (builtP ⟨pk,pn⟩ l=(8,[])):=hId (by unfold builtP;rw [if_neg hk1];simp only [hv])
       have HBL:Hid (builtL ps l []=(8,[])):=hId (by rw [HAT.out,HB.out,if_pos (by simp)])
       have HR:Hid (buildOf t l=(8,[])):=hId (by rw [HQ2.out,HBL.out,if_pos (by simp)])
       clear hv hk1
       go_wp2_with fail
       go_ret2
       exact RTxt.fault HR.out (HM1.out.trans HM2.out)
      ·have hR:builtP ⟨pk,pn⟩ l=if pk=2 then(if sv=emptyB then(3,[]) else(0,[sv])) else if sv=emptyB then(0,[]) else segsOf sv:=by
        unfold builtP;rw [if_neg hk1];simp only [hv]
       obtain⟨px,hpx,hpv⟩:=lookP_mem hv
       have hvz:sv.size≤3100:=by rw [← hpv];exact HZ.out _ hpx
       have e1:=const_eq sv []
       have e2:=empty_is sv
       have HR0:=hId hR
       clear hR hv hpx hpv HCASE hk1
       by_cases h2:pk=2
       ·subst h2
        by_cases hve:sv=emptyB
        ·rw [decide_eq_true hve]at e1
         have HB:Hid (builtP ⟨2,pn⟩ l=(3,[])):=hId (by rw [HR0.out,if_pos rfl,if_pos hve])
         have HBL:Hid (builtL ps l []=(3,[])):=hId (by rw [HAT.out,HB.out,if_pos (by simp)])
         have HR:Hid (buildOf t l=(3,[])):=hId (by rw [HQ2.out,HBL.out,if_pos (by simp)])
         clear hve e2
         go_wp2_with fail
         try(go_quiet (fail))
         try(go_wp2_with fail)
         go_ret2
         exact RTxt.fault HR.out (HM1.out.trans HM2.out)
        ·rw [decide_eq_false hve]at e1
         have hB:builtP ⟨2,pn⟩ l=(0,[sv]):=by rw [HR0.out,if_pos rfl,if_neg hve]
         rw [hB]at HAT HOK
         have HE1:Hid (builtL ps l []=builtL (ps.drop (k+1)) l (out++ [sv])):=hId (by rw [HAT.out,if_neg (by simp)])
         have HWT1:Hid (wtL (out++ [sv])≤3110 * (k+1)):=hId (by rw [wtL_append];have h1:=HWT.out;have h2:=(HOK.out rfl).2;simp only at h2;omega)
         clear hB HAT HOK hve e2 HR0
         go_upto_region 24 with fail
         try(go_quiet (fail))
         go_upto_region 27 with fail
         have hbs:=Blk.new w3 9 #[.string sv]
         have hms:New w3 (w3.alloc (.cells #[.string sv] 9)):=(Mod.refl _ _).alloc _
         have hoA:=HO2.out.new hms
         have HMA:=hId (HM2.out.trans hms)
         have HPA:=hId (HMP2.out.mod hms (fun e=>e))
         have hszA:mb+1≤(w3.alloc (.cells #[.string sv] 9)).heap.size:=HPA.out.lt
         have HOF:Hid (∀ g',blkOf A'=some g'→mb+1≤g'):=hId (fun g' e=>HO2.out.farP g' e)
         go_wp2_with (at_builtin;refine wpList_push rfl _ _ _ rfl 16 Tryz.underlying26 einfo_str rfl hoA sv w3.heap.size rfl hbs (fun j hj=>sEnc_one _ j hj) (by omega) (by omega) hszA ?_;intro g8 cap8 w8 own8 hm8 hat8 hlt8)
         have HO8:=hId own8
         have HM8:Hid (New w1 w8):=hId (HMA.out.step hm8 (fun i hi e=>by have h1:=HOF.out i e;have h2:=HMB.out i hi;omega))
         have HP8:Hid (MapOf strKeys w8 mb (pmap l)):=hId (HPA.out.mod hm8 (fun e=>by have:=HOF.out _ e;omega))
         clear own8 hm8
         go_roundw
         case rel=>exact⟨k+1,n'+1,cap8,_,_,by omega,by go_num,rfl,by omega,HWT1,HO8,HE1,HP8,HM8⟩
         case measure=>simp [intOf];omega
       ·have h2':((pk:Int) == 2)=false:=by simpa using h2
        by_cases hve:sv=emptyB
        ·rw [decide_eq_true hve]at e1 e2
         have hB:builtP ⟨pk,pn⟩ l=(0,[]):=by rw [HR0.out,if_neg h2,if_pos hve]
         rw [hB]at HAT
         have HE1:Hid (builtL ps l []=builtL (ps.drop (k+1)) l out):=hId (by rw [HAT.out,if_neg (by simp)];simp)
         have HWT1:Hid (wtL out≤3110 * (k+1)):=hId (by have:=HWT.out;omega)
         clear hB HAT HOK hve HR0 h2
         go_upto_region 24 with fail
         try(go_quiet (fail))
         go_wp2_with fail
         try(go_quiet (fail))
         try(go_wp2_with fail)
         go_roundw
         case rel=>exact⟨k+1,n',c',A',out,by omega,by go_num,rfl,by omega,HWT1,HO2,HE1,HMP2,HM2⟩
         case measure=>simp [intOf];omega
        ·rw [decide_eq_false hve]at e1 e2
         have hB:builtP ⟨pk,pn⟩ l=segsOf sv:=by rw [HR0.out,if_neg h2,if_neg hve]
         rw [hB]at HAT HOK
         have hsg:=ref2_segmentsOf sv w3 (by omega) (HX.out.new (HM1.out.trans HM2.out)) (HES.out.new (HM1.out.trans HM2.out))
         clear hB hve HR0 h2
         go_upto_region 24 with fail
         try(go_quiet (fail))
         go_wp2_with fail
         try(go_quiet (fail))
         try(go_wp2_with fail)
         refine hsg.mono ?_
         clear hsg y0 y1 yl hlk
         rintro e w4 ⟨A3,n3,c3,rfl,hs3,hm3,hc3⟩
         have HM3:Hid (New w1 w4):=hId (HM2.out.trans hm3)
         have HO3:=hId (HO2.out.new hm3)
         have HMP3:=hId (HMP2.out.mod hm3 (fun e=>e))
         have HS3:=hId hs3
         clear hm3 hs3 HM2 HO2 HMP2
         generalize segsOf sv=q at *
         obtain⟨q1,bs⟩:=q
         simp only at HS3 HAT HOK ⊢
         by_cases hq1:q1=0
         rotate_left
         ·have hq1':((q1:Int) != 0)=true:=by simpa using hq1
          have HBL:Hid (builtL ps l []=(q1,[])):=hId (by rw [HAT.out,if_pos hq1])
          have HR:Hid (buildOf t l=(q1,[])):=hId (by rw [HQ2.out,HBL.out,if_pos hq1])
          clear hq1
          go_wp2_with fail
          go_ret2
          exact RTxt.fault HR.out (HM1.out.trans HM3.out)
         ·subst hq1
          obtain⟨k1,k2⟩:=HOK.out rfl
          have HE1:Hid (builtL ps l []=builtL (ps.drop (k+1)) l (out++bs)):=hId (by rw [HAT.out,if_neg (by simp)])
          have HWT1:Hid (wtL (out++bs)≤3110 * (k+1)):=hId (by rw [wtL_append];have:=HWT.out;omega)
          have hbl:bs.length=n3:=HS3.out.1
          have hn30:n3≤100:=by omega
          have HOF:Hid (∀ g',blkOf A'=some g'→mb+1≤g'):=hId (fun g' e=>HO3.out.farP g' e)
          clear HOK HAT HWT k1 k2
          rcases Nat.eq_zero_or_pos n3 with h0 | h0
          ·subst h0
           obtain rfl:bs= []:=List.eq_nil_of_length_eq_zero hbl
           obtain⟨i9,z9,hi9,_⟩:=einfo_str
           have hap:=fun ty=>append_empty (P:=Tryz.prog) Tryz.underlying26 hi9 A' A3 n' c' c3 HO3.out.ncap ty w4
           have HO4:Hid (Own w4 (mb+1) 9 1 sEnc A' n' c' (out++ [])):=hId (by rw [List.append_nil];exact HO3.out)
           go_wp2_with (at_builtin;refine wpList_append_by rfl _ _ 26 rfl rfl rfl hap ?_)
           go_roundw
           case rel=>exact⟨k+1,n',c',A',_,by omega,by go_num,rfl,by omega,HWT1,HO4,HE1,HMP3,HM3⟩
           case measure=>simp [intOf];omega
          ·obtain⟨g3,o3,hA3,-,-⟩:=HS3.out.2 h0
           subst hA3
           have hsz3:mb+1≤w4.heap.size:=HMP3.out.lt
           have hs3:=HS3.out
           go_wp2_with (at_builtin;refine wpList_pushAll rfl _ _ _ rfl 16 Tryz.underlying26 einfo_str rfl HO3.out bs g3 o3 n3 c3 rfl hs3 h0 (fun y _ j hj=>sEnc_one _ j hj) (by omega) (by omega) (by omega) ?_;intro g8 cap8 w8 own8 hm8 hat8 hlt8)
           have HO8:=hId own8
           have HM8:Hid (New w1 w8):=hId (HM3.out.step hm8 (fun i hi e=>by have h1:=HOF.out i e;have h2:=HMB.out i hi;omega))
           have HP8:Hid (MapOf strKeys w8 mb (pmap l)):=hId (HMP3.out.mod hm8 (fun e=>by have:=HOF.out _ e;omega))
           clear own8 hm8
           go_roundw
           case rel=>exact⟨k+1,n'+n3,cap8,_,_,by omega,by go_num,rfl,by omega,HWT1,HO8,HE1,HP8,HM8⟩
           case measure=>simp [intOf];omega
    ·obtain rfl:k=np:=by omega
     have hend:builtL ps l []=(0,out):=by
      rw [HE.out,List.drop_eq_nil_of_le (by have:=HPL.out;(try simp only at this);omega),builtL]
     have HR:Hid (buildOf t l=joinP out):=hId (by rw [HQ2.out,hend,if_neg (by simp)])
     have hwt:=HWT.out
     have hft:PFit out:=⟨by have:=pathT_wt out;omega,fun x hx=>by have:=wtL_mem hx;omega⟩
     have hjp:=ref2_pathFrom A' n' c' out wi HO.out.sl hft
     have HJP:=hId hjp
     clear hjp hft hwt hend
     go_wp2_with fail
     refine HJP.out.mono ?_
     clear HJP
     rintro e w5 ⟨rfl,hm5⟩
     have HM5:Hid (New w w5):=hId (HM1.out.trans (HM.out.trans hm5))
     clear hm5
     generalize joinP out=q at *
     obtain⟨q1,q2⟩:=q
     simp only
     go_wp2_with fail
     go_ret2
     exact⟨by rw [HR.out];rfl,HM5.out⟩
set_option maxHeartbeats 400000 in
theorem ref1_BuildOfT (t:ByteArray) (A:Option Addr) (n c:Nat) (l:List PairD) (w:World) (ht:t.size≤100000) (hq:QSl w A n l) (hn:n≤100000) (hnc:n≤c) (hz:∀ x∈l,x.2.size≤3100) (hx:MaxLn w) (he:ErrSyn w):
  Calls Tryz.prog 49 #[.string t,.slice A n c] w (RTxt (buildOf t l) w):=
 ref1_BuildOf t A n c l w ht hq hn hnc hz (tplOf_small t).1 (tplOf_small t).2 hx he
set_option maxRecDepth 100000 in
set_option maxHeartbeats 2000000 in
theorem ref_rewriteOf (x:RA) (r:RtD) (q:ReqL) (A:Option Addr) (n c:Nat) (w:World) (h:RtAt w x r) (hh:HSl w A n q.heads) (hp:r.path.size≤100000) (hdz:r.dest.size≤100000) (hq:q.path.size≤100000) (hqh:q.host.size≤100000) (hz:∀ y∈r.hosts,y.size≤100000) (hl:r.hosts.length≤1000)
  (hnn:r.needs.length≤1000) (hmm:r.methods.length≤1000) (hn:n≤100000) (hx:MaxLn w) (he:ErrSyn w):
  Calls Tryz.prog 13 #[x.val,reqV q A n c] w (RNrm (sentOf r q) w):=by
 have HHT:=hId (fun W (hm:New w W)=>ref_hitOf x r q A n c W (h.new hm) (hh.new hm) hp hq hqh hz hl hnn hmm hn (hx.new hm) (he.new hm))
 have HBT:=hId (fun W (hm:New w W) A' n' c' l (hl:hitOf r q=some l) (hq:QSl W A' n' l) (hc:n'≤c')=>ref1_BuildOfT r.dest A' n' c' l W hdz hq (by have:=(hitOf_some hl).1;have:=hq.1;omega) hc (hitOf_some hl).2 (hx.new hm) (he.new hm))
 have HSO:Hid (sentOf r q=match hitOf r q with
  | none=>(8,zReqL)
  | some l=>if r.dest=⟨#[]⟩ then(0,q) else if (buildOf r.dest l).1≠0 then((buildOf r.dest l).1,zReqL) else(0,{q with path:=⟨(buildOf r.dest l).2.toArray⟩})):=hId rfl
 have HDS:=hId h.dest
 have HH:=hId hh
 clear h hh hp hdz hq hqh hz hl hnn hmm hn hx he
 obtain⟨key,ha,hn',hc,path,ma,mn,mc,na,nn,nc,dest⟩:=x
 obtain⟨at_,me,ho,pa,qu,fr,heads,bo⟩:=q
 simp only [RA.val,reqV]at HDS HHT HH HSO ⊢
 rw [← HDS.out]at HBT HSO
 clear HDS
 generalize hitOf r ⟨at_,me,ho,pa,qu,fr,heads,bo⟩=O at *
 have hb:=Blk.new w 29 #[.string key,.slice ha hn' hc,.string path,.slice ma mn mc,.slice na nn nc,.string dest]
 have hm:New w (w.alloc (.cells #[.string key,.slice ha hn' hc,.string path,.slice ma mn mc,.slice na nn nc,.string dest] 29)):=(Mod.refl _ _).alloc _
 have hz1:(w.alloc (.cells #[.string key,.slice ha hn' hc,.string path,.slice ma mn mc,.slice na nn nc,.string dest] 29)).heap.size=w.heap.size+1:=by simp
 go_enter Tryz.func13,Tryz.ntmps13
 go_upto_region 1 with(fail)
 generalize w.alloc (.cells #[.string key,.slice ha hn' hc,.string path,.slice ma mn mc,.slice na nn nc,.string dest] 29)=wA at *
 have hy:=Blk.new wA 33 #[.int .i64 at_,.string me,.string ho,.string pa,.string qu,.string fr,.slice A n c,.string bo]
 have hm2:New wA (wA.alloc (.cells #[.int .i64 at_,.string me,.string ho,.string pa,.string qu,.string fr,.slice A n c,.string bo] 33)):=(Mod.refl _ _).alloc _
 have hz2:(wA.alloc (.cells #[.int .i64 at_,.string me,.string ho,.string pa,.string qu,.string fr,.slice A n c,.string bo] 33)).heap.size=wA.heap.size+1:=by simp
 generalize wA.alloc (.cells #[.int .i64 at_,.string me,.string ho,.string pa,.string qu,.string fr,.slice A n c,.string bo] 33)=wB at *
 have hr:=Blk.new wB 33 zReq
 have hm3:New wB (wB.alloc (.cells zReq 33)):=(Mod.refl _ _).alloc _
 have HM:=hId ((hm.trans hm2).trans hm3)
 have HX:=hId ((hb.new2 hm2).new2 hm3)
 have hy2:=hy.new2 hm3
 rw [hz2,hz1]at hr
 rw [hz1]at hy2
 have HY:=hId hy2
 have HR:=hId hr
 have HH1:=hId (HH.out.new HM.out)
 clear hb hy hr hm hm2 hm3 hy2 HH
 have HH:=HH1
 clear HH1
 generalize wB.alloc (.cells zReq 33)=w1 at *
 clear hz1 hz2
 generalize hxb:w.heap.size=xb at *
 generalize hyb:xb+1=yb at *
 generalize hrb:yb+1=rb at *
 have HRB:Hid (w.heap.size≤rb):=hId (by omega)
 have HYB:Hid (w.heap.size≤yb):=hId (by omega)
 have hxy:xb≠yb:=by omega
 have hxr:xb≠rb:=by omega
 have hyr:yb≠rb:=by omega
 clear hxb hyb hrb
 have hp0:=HHT.out w1 HM.out
 clear HHT
 have x0:=HX.out.cell 0
 have x1:=HX.out.cell 1
 have x2:=HX.out.cell 2
 have x3:=HX.out.cell 3
 have x4:=HX.out.cell 4
 have x5:=HX.out.cell 5
 have xl:=HX.out.lt
 have y0:=HY.out.cell 0
 have y1:=HY.out.cell 1
 have y2:=HY.out.cell 2
 have y3:=HY.out.cell 3
 have y4:=HY.out.cell 4
 have y5:=HY.out.cell 5
 have y6:=HY.out.cell 6
 have y7:=HY.out.cell 7
 have yl:=HY.out.lt
 simp only [lqt,lqz,lqs]at x0 x1 x2 x3 x4 x5 y0 y1 y2 y3 y4 y5 y6 y7
 go_wp2_with fail
 refine hp0.mono ?_
 clear hp0
 rintro e w2 ⟨A2,n2,c2,rfl,hq2,m2,hc2⟩
 clear x0 x1 x2 x3 x4 x5 xl y0 y1 y2 y3 y4 y5 y6 y7 yl
 have HX1:=hId (HX.out.new2 m2)
 have HY1:=hId (HY.out.new2 m2)
 have HR1:=hId (HR.out.new2 m2)
 have HM1:=hId (HM.out.trans m2)
 have HH1:=hId (HH.out.new m2)
 clear HX HY HR HM HH m2
 have HX:=HX1
 have HY:=HY1
 have HR:=HR1
 have HM:=HM1
 have HH:=HH1
 clear HX1 HY1 HR1 HM1 HH1
 have x0:=HX.out.cell 0
 have x1:=HX.out.cell 1
 have x2:=HX.out.cell 2
 have x3:=HX.out.cell 3
 have x4:=HX.out.cell 4
 have x5:=HX.out.cell 5
 have xl:=HX.out.lt
 have y0:=HY.out.cell 0
 have y1:=HY.out.cell 1
 have y2:=HY.out.cell 2
 have y3:=HY.out.cell 3
 have y4:=HY.out.cell 4
 have y5:=HY.out.cell 5
 have y6:=HY.out.cell 6
 have y7:=HY.out.cell 7
 have yl:=HY.out.lt
 simp only [lqt,lqz,lqs]at x0 x1 x2 x3 x4 x5 y0 y1 y2 y3 y4 y5 y6 y7
 generalize (if O.isSome then r.key else⟨#[]⟩:ByteArray)=ks at *
 have hit1:=Blk.new w2 91 #[.string ks,.slice A2 n2 c2]
 have hm7:New w2 (w2.alloc (.cells #[.string ks,.slice A2 n2 c2] 91)):=(Mod.refl _ _).alloc _
 go_upto_region 2 with(fail)
 clear x0 x1 x2 x3 x4 x5 xl y0 y1 y2 y3 y4 y5 y6 y7 yl
 have HI:=hId hit1
 have HQ2:=hId (fun l (hl:O=some l)=>(hq2 l hl).new hm7)
 have HC2:=hId hc2
 clear hit1 hq2 hc2
 generalize w2.alloc (.cells #[.string ks,.slice A2 n2 c2] 91)=w3 at *
 generalize w2.heap.size=ib at *
 have HX1:=hId (HX.out.new2 hm7)
 have HY1:=hId (HY.out.new2 hm7)
 have HR1:=hId (HR.out.new2 hm7)
 have HM1:=hId (HM.out.trans hm7)
 have HH1:=hId (HH.out.new hm7)
 clear HX HY HR HM HH hm7
 have HX:=HX1
 have HY:=HY1
 have HR:=HR1
 have HM:=HM1
 have HH:=HH1
 clear HX1 HY1 HR1 HM1 HH1
 have x0:=HX.out.cell 0
 have x1:=HX.out.cell 1
 have x2:=HX.out.cell 2
 have x3:=HX.out.cell 3
 have x4:=HX.out.cell 4
 have x5:=HX.out.cell 5
 have xl:=HX.out.lt
 have y0:=HY.out.cell 0
 have y1:=HY.out.cell 1
 have y2:=HY.out.cell 2
 have y3:=HY.out.cell 3
 have y4:=HY.out.cell 4
 have y5:=HY.out.cell 5
 have y6:=HY.out.cell 6
 have y7:=HY.out.cell 7
 have yl:=HY.out.lt
 simp only [lqt,lqz,lqs]at x0 x1 x2 x3 x4 x5 y0 y1 y2 y3 y4 y5 y6 y7
 cases O with
 | none=>
  have HQ:=hId HSO.out
  simp only at HQ
  clear HSO HBT HQ2 HI
  simp only [Option.isSome_none]
  have HFIN:Hid (∀ W',Mod (fun k=>k=rb) w3 W'→RNrm (sentOf r ⟨at_,me,ho,pa,qu,fr,heads,bo⟩) w (.returned (.tuple #[reqV zReqL none 0 0,.int .i64 8])) W'):=hId (fun W' hm=>RNrm.fault HQ.out (HM.out.step hm (fun i hi e=>by have h1:=HRB.out;omega)))
  have hcR:=HR.out.cell
  have hfR:=HR.out.frozen
  have rlt:=HR.out.lt
  have HMF:=hId (fun (v0 v1 v2 v3 v4 v5 v6 v7:Value)=>(Mod.set8 rb w3 v0 v1 v2 v3 v4 v5 v6 v7))
  clear HR HX HY HM HH
  go_wp2_with fail
  refine bodyPost_ret (v:=(.tuple #[reqV zReqL none 0 0,.int .i64 8])) (by simp [results,Tryz.results13,go_sem,hcR,hfR,rlt,reqV,zReqL]) rfl ?_
  exact HFIN.out _ (HMF.out _ _ _ _ _ _ _ _)
 | some l=>
  have HS1:=hId HSO.out
  simp only at HS1
  clear HSO
  simp only [Option.isSome_some]
  have d1:=str_nil dest
  have d2:=emp_is dest
  by_cases hd:dest=⟨#[]⟩
  ·have HQ:=hId (HS1.out.trans (if_pos hd))
   rw [decide_eq_true hd]at d1 d2
   clear HS1 HBT hd HI
   have HFIN:Hid (∀ W',Mod (fun k=>k=rb) w3 W'→RNrm (sentOf r ⟨at_,me,ho,pa,qu,fr,heads,bo⟩) w (.returned (.tuple #[reqV ⟨at_,me,ho,pa,qu,fr,heads,bo⟩ A n c,.int .i64 0])) W'):=hId (fun W' hm=>⟨A,n,c,by rw [HQ.out],by rw [HQ.out];exact HH.out.mod hm (fun g hg e=>hg.ne HR.out.tb (by decide) e),HM.out.step hm (fun i hi e=>by have h1:=HRB.out;omega)⟩)
   have hcR:=HR.out.cell
   have hfR:=HR.out.frozen
   have rlt:=HR.out.lt
   have HMF:=hId (fun (v0 v1 v2 v3 v4 v5 v6 v7:Value)=>(Mod.set8 rb w3 v0 v1 v2 v3 v4 v5 v6 v7))
   clear HR HX HY HM HH
   go_wp2_with fail
   refine bodyPost_ret (v:=(.tuple #[reqV ⟨at_,me,ho,pa,qu,fr,heads,bo⟩ A n c,.int .i64 0])) (by simp [results,Tryz.results13,go_sem,hcR,hfR,rlt,reqV,zReqL]) rfl ?_
   exact HFIN.out _ (HMF.out _ _ _ _ _ _ _ _)
  have HS2:=hId (HS1.out.trans (if_neg hd))
  rw [decide_eq_false hd]at d1 d2
  clear HS1 hd
  have hbt:=HBT.out w3 HM.out A2 n2 c2 l rfl (HQ2.out l rfl) HC2.out
  clear HBT
  generalize buildOf dest l=B at *
  obtain⟨be,bt⟩:=B
  unfold RTxt at hbt
  simp only at hbt HS2
  generalize (⟨bt.toArray⟩:ByteArray)=BT at *
  have i0:=HI.out.cell 0
  have i1:=HI.out.cell 1
  have il:=HI.out.lt
  simp only [lqt,lqz,lqs]at i0 i1
  go_wp2_with fail
  refine hbt.mono ?_
  clear hbt i0 i1 il
  rintro e w4 ⟨rfl,m4⟩
  clear x0 x1 x2 x3 x4 x5 xl y0 y1 y2 y3 y4 y5 y6 y7 yl
  have HX1:=hId (HX.out.new2 m4)
  have HY1:=hId (HY.out.new2 m4)
  have HR1:=hId (HR.out.new2 m4)
  have HM1:=hId (HM.out.trans m4)
  have HH1:=hId (HH.out.new m4)
  clear HX HY HR HM HH m4
  have HX:=HX1
  have HY:=HY1
  have HR:=HR1
  have HM:=HM1
  have HH:=HH1
  clear HX1 HY1 HR1 HM1 HH1
  have x0:=HX.out.cell 0
  have x1:=HX.out.cell 1
  have x2:=HX.out.cell 2
  have x3:=HX.out.cell 3
  have x4:=HX.out.cell 4
  have x5:=HX.out.cell 5
  have xl:=HX.out.lt
  have y0:=HY.out.cell 0
  have y1:=HY.out.cell 1
  have y2:=HY.out.cell 2
  have y3:=HY.out.cell 3
  have y4:=HY.out.cell 4
  have y5:=HY.out.cell 5
  have y6:=HY.out.cell 6
  have y7:=HY.out.cell 7
  have yl:=HY.out.lt
  simp only [lqt,lqz,lqs]at x0 x1 x2 x3 x4 x5 y0 y1 y2 y3 y4 y5 y6 y7
  by_cases hbe:be≠0
  ·have hb2:(be != 0)=true:=by simpa using hbe
   have HQ:=hId (HS2.out.trans (if_pos hbe))
   clear HS2 hbe HQ2 HI
   have HFIN:Hid (∀ W',Mod (fun k=>k=rb) w4 W'→RNrm (sentOf r ⟨at_,me,ho,pa,qu,fr,heads,bo⟩) w (.returned (.tuple #[reqV zReqL none 0 0,.int .i64 be])) W'):=hId (fun W' hm=>RNrm.fault HQ.out (HM.out.step hm (fun i hi e=>by have h1:=HRB.out;omega)))
   have hcR:=HR.out.cell
   have hfR:=HR.out.frozen
   have rlt:=HR.out.lt
   have HMF:=hId (fun (v0 v1 v2 v3 v4 v5 v6 v7:Value)=>(Mod.set8 rb w4 v0 v1 v2 v3 v4 v5 v6 v7))
   clear HR HX HY HM HH
   go_wp2_with fail
   refine bodyPost_ret (v:=(.tuple #[reqV zReqL none 0 0,.int .i64 be])) (by simp [results,Tryz.results13,go_sem,hcR,hfR,rlt,reqV,zReqL]) rfl ?_
   exact HFIN.out _ (HMF.out _ _ _ _ _ _ _ _)
  have hb2:(be != 0)=false:=by simpa using hbe
  have HQ:=hId (HS2.out.trans (if_neg hbe))
  clear HS2 hbe HQ2 HI
  have yfr:=HY.out.frozen
  go_upto_region 9 with(fail)
  clear yfr
  clear x0 x1 x2 x3 x4 x5 xl y0 y1 y2 y3 y4 y5 y6 y7 yl
  have HY1:=hId (HY.out.set 3 (.string BT))
  simp only [Array.setIfInBounds,List.size_toArray,List.length_cons,List.length_nil,Nat.reduceAdd,Nat.reduceLT,↓reduceDIte,List.set_toArray,lsz,lss]at HY1
  have hms:Mod (fun k=>k=yb) w4 (w4.setCell ⟨yb,3,none⟩ (.string BT)):=Mod.setCell (S:=fun k=>k=yb) (p:=⟨yb,3,none⟩) (Mod.refl _ _) (.inl rfl) _
  have HX1:=hId (HX.out.mod hms hxy)
  have HR1:=hId (HR.out.mod hms (Ne.symm hyr))
  have HM1:=hId (HM.out.step hms (fun i hi e=>by have:=HYB.out;omega))
  have HH1:=hId (HH.out.mod hms (fun g hg e=>hg.ne HY.out.tb (by decide) e))
  clear HX HY HR HM HH hms
  generalize w4.setCell ⟨yb,3,none⟩ (.string BT)=w5 at *
  have HX:=HX1
  have HY:=HY1
  have HR:=HR1
  have HM:=HM1
  have HH:=HH1
  clear HX1 HY1 HR1 HM1 HH1
  have x0:=HX.out.cell 0
  have x1:=HX.out.cell 1
  have x2:=HX.out.cell 2
  have x3:=HX.out.cell 3
  have x4:=HX.out.cell 4
  have x5:=HX.out.cell 5
  have xl:=HX.out.lt
  have y0:=HY.out.cell 0
  have y1:=HY.out.cell 1
  have y2:=HY.out.cell 2
  have y3:=HY.out.cell 3
  have y4:=HY.out.cell 4
  have y5:=HY.out.cell 5
  have y6:=HY.out.cell 6
  have y7:=HY.out.cell 7
  have yl:=HY.out.lt
  simp only [lqt,lqz,lqs]at x0 x1 x2 x3 x4 x5 y0 y1 y2 y3 y4 y5 y6 y7
  have HFIN:Hid (∀ W',Mod (fun k=>k=rb) w5 W'→RNrm (sentOf r ⟨at_,me,ho,pa,qu,fr,heads,bo⟩) w (.returned (.tuple #[reqV ⟨at_,me,ho,BT,qu,fr,heads,bo⟩ A n c,.int .i64 0])) W'):=hId (fun W' hm=>⟨A,n,c,by rw [HQ.out],by rw [HQ.out];exact HH.out.mod hm (fun g hg e=>hg.ne HR.out.tb (by decide) e),HM.out.step hm (fun i hi e=>by have h1:=HRB.out;omega)⟩)
  have hcR:=HR.out.cell
  have hfR:=HR.out.frozen
  have rlt:=HR.out.lt
  have HMF:=hId (fun (v0 v1 v2 v3 v4 v5 v6 v7:Value)=>(Mod.set8 rb w5 v0 v1 v2 v3 v4 v5 v6 v7))
  clear HR HX HY HM HH
  go_wp2_with fail
  refine bodyPost_ret (v:=(.tuple #[reqV ⟨at_,me,ho,BT,qu,fr,heads,bo⟩ A n c,.int .i64 0])) (by simp [results,Tryz.results13,go_sem,hcR,hfR,rlt,reqV,zReqL]) rfl ?_
  exact HFIN.out _ (HMF.out _ _ _ _ _ _ _ _)
def QPred (w:World) (F:Nat) (cp:Value) (f:PairD→Bool):Prop:=
 ∀(p:PairD) wr,New w wr→Calls Tryz.prog F #[pairVal p,cp] wr fun e w'=>e= .returned (.bool (f p))∧New wr w'
set_option maxHeartbeats 1000000 in
theorem indexFunc_pairQ (F:Nat) (cp:Value) (eg:∀ args w,(callFunc F args).run Tryz.prog w= .ok (.enter F args) w) (w:World) (A:Option Addr) (n c:Nat) (ps:List PairD) (f:PairD→Bool) (hs:QSl w A n ps) (hF:QPred w F cp f) (hn:n≤100000):
  Calls Tryz.prog 128 #[.slice A n c,.func (.func F) #[] #[cp]] w fun e w'=>e= .returned (.int .i64 (firstP (fun i=>(ps[i]?).any (f)) n))∧New w w':=by
 have HS:=hId hs
 have HF:=hId hF
 have HL:=hId hs.1
 obtain⟨b,hb⟩:∃ b:Nat→Bool,b=(fun i=>(ps[i]?).any (f)):=⟨_,rfl⟩
 rw [← hb]
 have HB:=hId hb
 clear hs hF hb
 go_enter Tryz.func128,Tryz.ntmps128
 go_wp2_with fail
 go_loopw [8] (fun i wr=>∃ k:Nat,k≤n∧i= .int .i64 k∧Hid (New w wr)∧Hid (∀ j,j<k→b j=false)) (fun i _=>n -(intOf i).toNat)
 case atStart=>exact⟨0,Nat.zero_le _,rfl,hId (Mod.refl _ _),hId (fun j hj=>absurd hj (by omega))⟩
 case round=>
  rename World=>wr
  obtain⟨k,hk,rfl,HM,HA⟩:=hrel
  by_cases hlt:k<n
  ·have hkx:k<ps.length:=by have:=HL.out;omega
   obtain⟨g,o,hA,htb,hc0⟩:=(HS.out.new HM.out).2 (by omega)
   have hgl:=htb.lt
   have hc:=fun q (hq:q<2)=>hc0 k hkx q hq
   have hbk:b k=f ps[k]:=by rw [HB.out];simp [hkx]
   have HBK:=hId hbk
   clear hc0 htb hbk
   have hcall:=HF.out ps[k] wr HM.out
   generalize ps[k]=y at *
   subst hA
   have hb1:(0:Int)≤k:=by omega
   have hb2:(k:Int)<n:=by omega
   obtain⟨yk,yn⟩:=y
   have b0:=hc 0 (by omega)
   have b1:=hc 1 (by omega)
   simp only [pairEnc,Nat.add_zero,Nat.zero_add]at b0 b1
   clear hc
   simp only [pairVal]at hcall
   generalize f (yk,yn)=r at *
   go_wp2_with fail
   refine hcall.mono ?_
   clear hcall
   rintro e w5 ⟨rfl,m5⟩
   have HM5:=hId (HM.out.trans m5)
   clear m5
   cases r with
   | true=>
    go_wp2_with fail
    go_ret
    exact⟨ret_int (firstP_hit hlt HBK.out HA.out).symm,HM5.out⟩
   | false=>
    go_wp2_with fail
    go_roundw
    case rel=>exact⟨k+1,by omega,by go_num,HM5,hId (fun j hj=>by
     by_cases e:j=k
     ·subst e;exact HBK.out
     ·exact HA.out j (by omega))⟩
    case measure=>simp [intOf];omega
  ·obtain rfl:k=n:=by omega
   go_wp2_with fail
   go_ret
   exact⟨ret_int (firstP_none HA.out).symm,HM.out⟩
set_option maxHeartbeats 1000000 in
theorem containsFunc_pairQ (F:Nat) (cp:Value) (eg:∀ args w,(callFunc F args).run Tryz.prog w= .ok (.enter F args) w) (w:World) (A:Option Addr) (n c:Nat) (ps:List PairD) (f:PairD→Bool) (hs:QSl w A n ps) (hF:QPred w F cp f) (hn:n≤100000):
  Calls Tryz.prog 54 #[.slice A n c,.func (.func F) #[] #[cp]] w fun e w'=>e= .returned (.bool (ps.any f))∧New w w':=by
 have hif:=indexFunc_pairQ F cp eg w A n c ps f hs hF hn
 have hany:decide (0≤firstP (fun i=>(ps[i]?).any (f)) n)=ps.any f:=by
  rw [firstP_any,←hs.1]
  exact anyRange _ _
 have HA:=hId hany
 clear hany hs hF eg
 generalize firstP (fun i=>(ps[i]?).any (f)) n=r at *
 generalize ps.any f=q at *
 go_enter Tryz.func54,Tryz.ntmps54
 go_wp2_with (first |(refine hif.mono ?_;clear hif;rintro e w' ⟨rfl,hm⟩;have hm:=hId hm))
 go_ret
 exact⟨ret_bool HA.out,hm.out⟩
end Go.Proofs.YtnlloaimplgjnaaGreatDoor
