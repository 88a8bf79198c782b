/- Several texts in one. (1) Templates, the plain law: a right template's parts are words, parameters, and at most one rest, at the end; the names that matching gives are the parameters' names. No program in sight. No conditions. (2) The path of a request that would be rewritten to a path: the reference's (gateref1.BackOf). Conditions: a route as the makers hand it out, right; a path of modest size; the library's variables lie as they should. (3) The path of a request that would be rewritten to a path: the program's (route.Back). Conditions: a route as the makers hand it out; a path of modest size; the library's variable on searching is an int. -/
import Derived.Test.YtnlloaimplgjnaaGreatDoorTpl3Grp
import Derived.Test.YtnlloaimplgjnaaGreatDoorBuildOfGrp
import Derived.Test.YtnlloaimplgjnaaGreatDoorBuildGrp
import Derived.Test.YtnlloaimplgjnaaGreatDoorNormBGrp
import Derived.Test.YtnlloaimplgjnaaGreatDoorMatchOfGrp
import Derived.Test.YtnlloaimplgjnaaGreatDoorPathOf1Grp
import Derived.Test.YtnlloaimplgjnaaGreatDoorRdyFGrp
import Derived.Test.YtnlloaimplgjnaaGreatDoorBytesOfGrp
import Derived.Test.YtnlloaimplgjnaaGreatDoorMatch
import Derived.Test.YtnlloaimplgjnaaGreatDoorChgLawGrp
namespace Go.Proofs.YtnlloaimplgjnaaGreatDoor
open Go.RowKit
set_option linter.unusedVariables false
set_option linter.unusedSimpArgs false
/-- words, parameters, one rest at the end -/
def goodT:List PartD→Prop
 | []=>True
 | p::ps=>(p.kind=1∨p.kind=2∨(p.kind=3∧ps= []))∧goodT ps
theorem partOf_good {x:ByteArray} {before:List PartD} {last:Bool} (h:(partOf x before last).1=0):(partOf x before last).2.kind=1∨(partOf x before last).2.kind=2∨((partOf x before last).2.kind=3∧last=true):=by
 unfold partOf at h ⊢
 by_cases h1:Lib.hasPrefix x.data.toList [123]=true
 ·rw [if_pos h1]at h ⊢
  by_cases h2:(!Lib.hasSuffix x.data.toList [125])=true
  ·rw [if_pos h2]at h;cases h
  ·rw [if_neg h2]at h ⊢
   simp only at h ⊢
   generalize Lib.trimSuffix (x.data.toList.drop 1) [125]=y at *
   by_cases h3:(!isWord (Lib.trimSuffix y [42]))=true
   ·rw [if_pos h3]at h;cases h
   ·rw [if_neg h3]at h ⊢
    by_cases h4:hasP before ⟨(Lib.trimSuffix y [42]).toArray⟩=true
    ·rw [if_pos h4]at h;cases h
    ·rw [if_neg h4]at h ⊢
     by_cases h5:(Lib.hasSuffix y [42]&& !last)=true
     ·rw [if_pos h5]at h;cases h
     ·rw [if_neg h5]
      simp only
      cases h6:Lib.hasSuffix y [42]
      ·exact .inr (.inl rfl)
      ·rw [h6]at h5
       cases last
       ·exact absurd rfl h5
       ·exact .inr (.inr ⟨rfl,rfl⟩)
 ·rw [if_neg h1]at h ⊢
  by_cases h2:(x.data.toList.any fun c=>badC c.toNat)=true
  ·rw [if_pos h2]at h;cases h
  ·rw [if_neg h2]at h ⊢
   cases hd:decL x.data.toList with
   | none=>rw [hd]at h;cases h
   | some n=>
    rw [hd]at h
    simp only at h ⊢
    by_cases h3:dotsL n=true
    ·rw [if_pos h3]at h;cases h
    ·rw [if_neg h3];exact .inl rfl
/-- nothing but words and parameters -/
def plainT (l:List PartD):Prop:=∀ p∈l,p.kind=1∨p.kind=2
theorem goodT_append:∀(l:List PartD) (r:List PartD),plainT l→goodT r→goodT (l++r)
 | [],r,_,h=>h
 | p::l,r,hp,h=>⟨by rcases hp p (by simp)with q | q;exact .inl q;exact .inr (.inl q),goodT_append l r (fun q hq=>hp q (List.mem_cons_of_mem _ hq)) h⟩
theorem partsOf_good:∀(xs:List ByteArray) (acc:List PartD),plainT acc→goodT (partsOf xs acc).2
 | [],acc,h=>by
  rw [partsOf]
  have:=goodT_append acc [] h trivial
  rwa [List.append_nil]at this
 | x::xs,acc,h=>by
  rw [partsOf]
  split
  ·trivial
  ·rename_i h1
   have h1:(partOf x acc xs.isEmpty).1=0:=by simpa using h1
   have hk:=partOf_good h1
   generalize partOf x acc xs.isEmpty=p at *
   rcases hk with q | q |⟨q,e⟩
   ·refine partsOf_good xs _ (fun y hy=>?_)
    rcases List.mem_append.1 hy with h' | h'
    ·exact h y h'
    ·simp at h';subst h';exact .inl q
   ·refine partsOf_good xs _ (fun y hy=>?_)
    rcases List.mem_append.1 hy with h' | h'
    ·exact h y h'
    ·simp at h';subst h';exact .inr q
   ·rw [List.isEmpty_iff]at e
    subst e
    rw [partsOf]
    exact goodT_append acc [p.2] h ⟨.inr (.inr ⟨q,rfl⟩),trivial⟩
theorem templateOf_good (segs:List ByteArray):goodT (templateOf segs).2:=by
 unfold templateOf
 by_cases h1:(partsOf segs []).1≠0
 ·rw [if_pos h1];trivial
 ·rw [if_neg h1]
  by_cases h2:(partsOf segs []).2.length > 30
  ·rw [if_pos h2];trivial
  ·rw [if_neg h2];exact partsOf_good _ _ (fun p hp=>by cases hp)
theorem tplOf_good (s:ByteArray):goodT (tplOf s).2:=by
 unfold tplOf
 by_cases h1:1000<s.size
 ·rw [if_pos h1];trivial
 ·rw [if_neg h1]
  by_cases h2:Lib.hasPrefix s.data.toList [47]=false
  ·rw [if_pos h2];trivial
  ·rw [if_neg h2];exact templateOf_good _
theorem matchL_cons0 (p:PartD) (ps:List PartD) (out:List PairD):matchL (p::ps) [] out=if p.kind=3 then some (out++ [(p.name,⟨(pathT []).toArray⟩)]) else none:=by rw [matchL]
theorem matchL_cons (p:PartD) (ps:List PartD) (segs:List ByteArray) (out:List PairD):matchL (p::ps) segs out=if p.kind=3 then some (out++ [(p.name,⟨(pathT segs).toArray⟩)]) else
  match segs with
  | []=>none
  | s::ss=>if (p.kind=1∧s≠p.name)∨(p.kind=2∧s=emptyB) then none else matchL ps ss (if p.kind=2 then out++ [(p.name,s)] else out):=by
 cases segs with
 | nil=>exact matchL_cons0 p ps out
 | cons s ss=>rw [matchL]
theorem matchL_nil (segs:List ByteArray) (out:List PairD):matchL [] segs out=if segs= [] then some out else none:=by rw [matchL]
/-- the names of the parameters that matching gives -/
theorem match_names (n:ByteArray) (ps:List PartD):∀(segs:List ByteArray) (out l:List PairD),goodT ps→matchL ps segs out=some l→(l.any fun p=>decide (p.1=n))=((out.any fun p=>decide (p.1=n))||hasP ps n):=by
 induction ps with
 | nil=>
  intro segs out l _ h
  rw [matchL_nil]at h
  split at h
  ·injection h with h;subst h;simp [hasP]
  ·cases h
 | cons p ps ih=>
  intro segs out l hg h
  rw [matchL_cons]at h
  obtain⟨hk,hg2⟩:=hg
  have hc:hasP (p::ps) n=((decide (p.kind≠1)&&decide (p.name=n))||hasP ps n):=by simp [hasP]
  rw [hc]
  by_cases h3:p.kind=3
  ·rw [if_pos h3]at h
   injection h with h
   subst h
   have hps:ps= []:=by rcases hk with q | q |⟨_,q⟩ <;> first | exact q |(rw [h3]at q;cases q)
   subst hps
   simp [h3,hasP]
  ·rw [if_neg h3]at h
   cases segs with
   | nil=>cases h
   | cons s ss=>
    simp only at h
    split at h
    ·cases h
    ·rw [ih ss _ l hg2 h]
     by_cases h2:p.kind=2
     ·rw [if_pos h2,List.any_append]
      have:decide (p.kind≠1)=true:=by simp [h2]
      rw [this]
      simp [Bool.or_assoc]
     ·rw [if_neg h2]
      have h1:p.kind=1:=by rcases hk with q | q |⟨q,_⟩ <;> first | exact q | exact absurd q h2 | exact absurd q h3
      have:decide (p.kind≠1)=false:=by simp [h1]
      rw [this]
      simp
def named1 (m:ByteArray) (p:PairD):Bool:=decide (p.1=m)
theorem enters_back1 (args:Array Value) (w:World):(callFunc 55 args).run Tryz.prog w= .ok (.enter 55 args) w:=by
 go_simp
set_option maxHeartbeats 600000 in
theorem ref_back1 (k:Int) (m:ByteArray) (p:PairD) (g:Nat) (w:World) (hg:Blk w g 78 #[.int .i64 k,.string m]):
  Calls Tryz.prog 55 #[pairVal p,.pointer (some ⟨g,0,none⟩)] w fun e w'=>e= .returned (.bool (named1 m p))∧New w w':=by
 obtain⟨pn,pv⟩:=p
 have HR:Hid (named1 m (pn,pv)=decide (pn=m)):=hId rfl
 generalize named1 m (pn,pv)=R at *
 unfold pairVal
 simp only
 have hm:New w (w.alloc (.cells #[.string pn,.string pv] 52)):=(Mod.refl _ _).alloc _
 have hb:=Blk.new w 52 #[.string pn,.string pv]
 have HM:=hId hm
 have hg1:=hg.mod hm (fun e=>e)
 have e1:=ba_beq pn m
 clear hm hg
 go_enter Tryz.func55,Tryz.ntmps55
 go_upto_region 1 with(fail)
 generalize w.alloc (.cells #[.string pn,.string pv] 52)=w1 at *
 generalize w.heap.size=xb at *
 have c0:=hb.cell 0
 have cl:=hb.lt
 have d1:=hg1.cell 1
 have dl:=hg1.lt
 simp only [lqt,lqz,lqs]at c0 d1
 clear hb hg1
 generalize decide (pn=m)=D1 at *
 go_wp2_with fail
 go_ret
 exact⟨ret_bool (by rw [HR.out,←e1]),HM.out⟩
/-- a parameter of the path that the other template lacks -/
def lackP (ds:List PartD) (p:PartD):Bool:=decide (p.kind≠1)&& !hasP ds p.name
theorem any_takeP {α:Type} {f:α→Bool} {l:List α} {k:Nat} (h:k<l.length) (h0:(l.take k).any f=false) (h1:f l[k]=false):(l.take (k+1)).any f=false:=by
 rw [List.take_succ_eq_append_getElem h,List.any_append,h0];simp [h1]
theorem any_hitP {α:Type} {f:α→Bool} {l:List α} {k:Nat} (h:k<l.length) (h1:f l[k]=true):l.any f=true:=List.any_eq_true.2 ⟨_,List.getElem_mem h,h1⟩
/-- the way back, by cases -/
theorem backOf_bad {r:RtD} {p:ByteArray} (h:(segsOf p).1≠0):backOf r p=((segsOf p).1,[]):=if_pos h
theorem backOf_is {r:RtD} {p:ByteArray} (h:(segsOf p).1=0):backOf r p=match matchL (if r.dest=⟨#[]⟩ then(tplOf r.path).2 else(tplOf r.dest).2) (segsOf p).2 []with
  | none=>(8,[])
  | some l=>if r.dest=⟨#[]⟩ then(0,(pathN p).2) else if (tplOf r.path).2.any (lackP (tplOf r.dest).2) then(8,[]) else buildOf r.path l:=by
 unfold backOf
 rw [if_neg (by simp [h])]
 rfl
theorem matchOf_of {t p:ByteArray} (ht:(tplOf t).1=0) (h:(segsOf p).1=0):matchOf t p=match matchL (tplOf t).2 (segsOf p).2 []with
  | none=>([],false,0)
  | some l=>(l,true,0):=by
 unfold matchOf
 rw [if_neg (by simp [ht]),if_neg (by simp [h])]
 cases matchL (tplOf t).2 (segsOf p).2 [] <;> rfl
theorem segsOf_path {p:ByteArray} (h:(segsOf p).1=0):(pathN p).1=0:=by
 unfold segsOf at h
 by_cases g:(pathN p).1≠0
 ·rw [if_pos g]at h;exact absurd h g
 ·exact Decidable.not_not.1 g
set_option maxRecDepth 100000 in
set_option maxHeartbeats 2000000 in
theorem ref_backOf (x:RA) (r:RtD) (p:ByteArray) (w:World) (h:RtAt w x r) (hr:RtMini r) (hf:routeF r=0) (hp:p.size≤100000) (hx:MaxLn w) (he:ErrSyn w):
  Calls Tryz.prog 15 #[x.val,.string p] w (RTxt (backOf r p) w):=by
 have HSG:=hId (fun W (hm:New w W)=>ref2_segmentsOf p W hp (hx.new hm) (he.new hm))
 have HPT:=hId (fun W (hm:New w W)=>ref2_pathOf p W hp (hx.new hm) (he.new hm))
 have HTP:=hId (fun W (hm:New w W)=>ref_templateOf r.path W (by have:=hr.path;omega) (hx.new hm))
 have HMP:=hId (fun t (ht:t.size≤300) W (hm:New w W)=>ref1_matchOf t p W (by omega) hp (hx.new hm) (he.new hm))
 have HBL:=hId (fun W (hm:New w W) A' n' c' l (hq:QSl W A' n' l) (hl:l.length≤30) (hv:∀ x∈l,x.2.size≤3100) (hc:n'≤c')=>ref1_BuildOfT r.path A' n' c' l W (by have:=hr.path;omega) hq (by have:=hq.1;omega) hc hv (hx.new hm) (he.new hm))
 have HB0:=hId (fun e=>backOf_bad (r:=r) (p:=p) e)
 have HB1:=hId (fun e=>backOf_is (r:=r) (p:=p) e)
 obtain⟨t1,t2⟩:=routeF_path hf
 have HT1:=hId t1
 have HT2:=hId t2
 have HMI:=hId hr
 have HK:x.path=r.path:=h.path
 have HD:x.dest=r.dest:=h.dest
 have HPS:=hId (tplOf_small r.path).1
 clear h hr hf hp hx he t1 t2
 obtain⟨key,ha,hn',hc,path,ma,mn,mc,na,nn,nc,dest⟩:=x
 simp only at HK HD
 subst HK HD
 simp only [RA.val]
 have hb:=Blk.new w 29 #[.string key,.slice ha hn' hc,.string r.path,.slice ma mn mc,.slice na nn nc,.string r.dest]
 have hm:New w (w.alloc (.cells #[.string key,.slice ha hn' hc,.string r.path,.slice ma mn mc,.slice na nn nc,.string r.dest] 29)):=(Mod.refl _ _).alloc _
 go_enter Tryz.func15,Tryz.ntmps15
 go_upto_region 1 with(fail)
 have HX:=hId hb
 have HM:=hId hm
 clear hb hm
 generalize w.alloc (.cells #[.string key,.slice ha hn' hc,.string r.path,.slice ma mn mc,.slice na nn nc,.string r.dest] 29)=w1 at *
 generalize w.heap.size=xb at *
 have q:=HSG.out w1 HM.out
 clear HSG
 have x0:=HX.out.cell 0
 have x1:=HX.out.cell 1
 have x2:=HX.out.cell 2
 have x3:=HX.out.cell 3
 have x4:=HX.out.cell 4
 have x5:=HX.out.cell 5
 have xl:=HX.out.lt
 simp only [lqt,lqz,lqs]at x0 x1 x2 x3 x4 x5
 by_cases hs:(segsOf p).1≠0
 ·have HQ:=hId (HB0.out hs)
  unfold RSegs at q
  have hsb:((segsOf p).1 != 0)=true:=by simpa using hs
  clear HB0 HB1 HPT HTP HMP HBL HT1 HT2 HMI hs HPS
  generalize segsOf p=S at *
  obtain⟨s1,s2⟩:=S
  simp only at q HQ hsb
  go_wp2_with fail
  refine q.mono ?_
  clear q
  rintro e w2 ⟨A2,n2,c2,rfl,-,m2,-⟩
  clear x0 x1 x2 x3 x4 x5 xl
  have HX1:=hId (HX.out.new2 m2)
  have HM1:=hId (HM.out.trans m2)
  clear HX HM
  have HX:=HX1
  have HM:=HM1
  clear HX1 HM1
  have x0:=HX.out.cell 0
  have x1:=HX.out.cell 1
  have x2:=HX.out.cell 2
  have x3:=HX.out.cell 3
  have x4:=HX.out.cell 4
  have x5:=HX.out.cell 5
  have xl:=HX.out.lt
  simp only [lqt,lqz,lqs]at x0 x1 x2 x3 x4 x5
  clear m2
  go_wp2_with fail
  go_ret2
  exact RTxt.fault HQ.out HM.out
 have hs0:(segsOf p).1=0:=Decidable.not_not.1 hs
 have HQ:=hId (HB1.out hs0)
 have HMO:=hId (fun t (ht:(tplOf t).1=0)=>matchOf_of (p:=p) ht hs0)
 have HPN:=hId (segsOf_path hs0)
 have HMV:=hId (fun (ps:List PartD) (l:List PairD) (e:matchL ps (segsOf p).2 []=some l)=>matchL_val (Z:=3100) ps _ [] l e (by have:=segs_wtD hs0;omega) (by simp))
 have HML:=hId (fun (ps:List PartD) (l:List PairD) (e:matchL ps (segsOf p).2 []=some l)=>matchL_small ps _ [] l e)
 have HMN:=hId (fun (m:ByteArray) (t:ByteArray) (l:List PairD) (e:matchL (tplOf t).2 (segsOf p).2 []=some l)=>match_names m (tplOf t).2 (segsOf p).2 [] l (tplOf_good t) e)
 unfold RSegs at q
 rw [hs0]at q
 clear HB0 HB1 hs hs0
 generalize (segsOf p).2=SG at *
 go_wp2_with fail
 refine q.mono ?_
 clear q
 rintro e w2 ⟨A2,n2,c2,rfl,-,m2,-⟩
 clear x0 x1 x2 x3 x4 x5 xl
 have HX1:=hId (HX.out.new2 m2)
 have HM1:=hId (HM.out.trans m2)
 clear HX HM
 have HX:=HX1
 have HM:=HM1
 clear HX1 HM1
 have x0:=HX.out.cell 0
 have x1:=HX.out.cell 1
 have x2:=HX.out.cell 2
 have x3:=HX.out.cell 3
 have x4:=HX.out.cell 4
 have x5:=HX.out.cell 5
 have xl:=HX.out.lt
 simp only [lqt,lqz,lqs]at x0 x1 x2 x3 x4 x5
 clear m2
 have q:=HPT.out w2 HM.out
 clear HPT
 unfold RTxt at q
 rw [HPN.out]at q
 generalize (pathN p).2=PN at *
 generalize hPB:(⟨PN.toArray⟩:ByteArray)=PB at *
 have HPB:=hId hPB
 clear hPB HPN
 go_wp2_with fail
 refine q.mono ?_
 clear q
 rintro e w3 ⟨rfl,m3⟩
 clear x0 x1 x2 x3 x4 x5 xl
 have HX1:=hId (HX.out.new2 m3)
 have HM1:=hId (HM.out.trans m3)
 clear HX HM
 have HX:=HX1
 have HM:=HM1
 clear HX1 HM1
 have x0:=HX.out.cell 0
 have x1:=HX.out.cell 1
 have x2:=HX.out.cell 2
 have x3:=HX.out.cell 3
 have x4:=HX.out.cell 4
 have x5:=HX.out.cell 5
 have xl:=HX.out.lt
 simp only [lqt,lqz,lqs]at x0 x1 x2 x3 x4 x5
 clear m3
 have d1:=str_nil r.dest
 have d2:=emp_is r.dest
 by_cases hd:r.dest=⟨#[]⟩
 ·rw [decide_eq_true hd]at d1 d2
  rw [if_pos hd]at HQ
  have HQ1:Hid (backOf r p=match matchL (tplOf r.path).2 SG []with | none=>(8,[]) | some l=>(0,PN)):=hId (by
   rw [HQ.out]
   cases matchL (tplOf r.path).2 SG []with
   | none=>rfl
   | some l=>exact if_pos hd)
  have q:=HMP.out r.path HMI.out.path w3 HM.out
  rw [HMO.out r.path HT1.out]at q
  clear HQ HMP HMO hd HTP HBL HT1 HT2 HMI HMV HML HMN HPS
  generalize matchL (tplOf r.path).2 SG []=M at *
  go_wp2_with fail
  refine q.mono ?_
  clear q
  rintro e w4 ⟨A4,n4,c4,rfl,hq4,m4,-⟩
  clear x0 x1 x2 x3 x4 x5 xl
  have HX1:=hId (HX.out.new2 m4)
  have HM1:=hId (HM.out.trans m4)
  clear HX HM
  have HX:=HX1
  have HM:=HM1
  clear HX1 HM1
  have x0:=HX.out.cell 0
  have x1:=HX.out.cell 1
  have x2:=HX.out.cell 2
  have x3:=HX.out.cell 3
  have x4:=HX.out.cell 4
  have x5:=HX.out.cell 5
  have xl:=HX.out.lt
  simp only [lqt,lqz,lqs]at x0 x1 x2 x3 x4 x5
  clear m4 hq4
  cases M with
  | none=>
   have HR:=hId HQ1.out
   simp only at HR
   clear HQ1
   simp only
   go_wp2_with fail
   go_ret2
   exact RTxt.fault HR.out HM.out
  | some l=>
   have HR:=hId HQ1.out
   simp only at HR
   clear HQ1
   simp only
   go_wp2_with fail
   go_ret2
   exact⟨by rw [HR.out,←HPB.out];rfl,HM.out⟩
 rw [decide_eq_false hd]at d1 d2
 rw [if_neg hd]at HQ
 have HQ1:Hid (backOf r p=match matchL (tplOf r.dest).2 SG []with | none=>(8,[]) | some l=>if (tplOf r.path).2.any (lackP (tplOf r.dest).2) then(8,[]) else buildOf r.path l):=hId (by
  rw [HQ.out]
  cases matchL (tplOf r.dest).2 SG []with
  | none=>rfl
  | some l=>exact if_neg hd)
 have q:=HMP.out r.dest HMI.out.dest w3 HM.out
 rw [HMO.out r.dest (HT2.out hd)]at q
 have HMD:=hId (HMN.out · r.dest)
 have HMV1:=hId (HMV.out (tplOf r.dest).2)
 have HML1:=hId (fun l e=>Nat.le_trans (HML.out (tplOf r.dest).2 l e) (by have:=(tplOf_small r.dest).1;simp only [List.length_nil];omega:_≤30))
 clear HQ HMP HMO hd HT2 HMV HML HMN
 generalize matchL (tplOf r.dest).2 SG []=M at *
 generalize (tplOf r.dest).2=DS at *
 go_wp2_with fail
 refine q.mono ?_
 clear q
 rintro e w4 ⟨A4,n4,c4,rfl,hq4,m4,hc4⟩
 clear x0 x1 x2 x3 x4 x5 xl
 have HX1:=hId (HX.out.new2 m4)
 have HM1:=hId (HM.out.trans m4)
 clear HX HM
 have HX:=HX1
 have HM:=HM1
 clear HX1 HM1
 have x0:=HX.out.cell 0
 have x1:=HX.out.cell 1
 have x2:=HX.out.cell 2
 have x3:=HX.out.cell 3
 have x4:=HX.out.cell 4
 have x5:=HX.out.cell 5
 have xl:=HX.out.lt
 simp only [lqt,lqz,lqs]at x0 x1 x2 x3 x4 x5
 clear m4
 cases M with
 | none=>
  have HR:=hId HQ1.out
  simp only at HR
  clear HQ1 HTP HBL HT1 HMI HMD HMV1 HML1 hq4 HPS
  simp only
  go_wp2_with fail
  go_ret2
  exact RTxt.fault HR.out HM.out
 | some l=>
  have HQ2:=hId HQ1.out
  simp only at HQ2
  clear HQ1
  have HL4:=hId hq4
  simp only at HL4
  have HC4:=hId hc4
  have HV:=hId (HMV1.out l rfl)
  have HLL:=hId (HML1.out l rfl)
  have HNM:=hId (fun m=>HMD.out m l rfl)
  clear HMV1 HML1 HMD hq4 hc4
  simp only
  have q:=HTP.out w4 HM.out
  unfold RTp at q
  rw [HT1.out]at q
  clear HTP HT1
  generalize (tplOf r.path).2=PS at *
  go_wp2_with fail
  refine q.mono ?_
  clear q
  rintro e w5 ⟨A5,n5,c5,rfl,hs5,m5,hn5⟩
  have HP5:=hId hs5
  have HL5:=hId (HL4.out.new m5)
  have HPL:=hId hs5.1
  clear x0 x1 x2 x3 x4 x5 xl
  have HX1:=hId (HX.out.new2 m5)
  have HM1:=hId (HM.out.trans m5)
  clear HX HM
  have HX:=HX1
  have HM:=HM1
  clear HX1 HM1
  have x0:=HX.out.cell 0
  have x1:=HX.out.cell 1
  have x2:=HX.out.cell 2
  have x3:=HX.out.cell 3
  have x4:=HX.out.cell 4
  have x5:=HX.out.cell 5
  have xl:=HX.out.lt
  simp only [lqt,lqz,lqs]at x0 x1 x2 x3 x4 x5
  clear HL4 m5 hs5
  have HX5:=HX
  have HM5:=HM
  go_wp2_with fail
  clear x0 x1 x2 x3 x4 x5 xl
  clear HX HM
  go_loopw [64] (fun i wr=>∃ k:Nat,k≤n5∧i= .int .i64 k∧Hid ((PS.take k).any (lackP DS)=false)∧Hid (New w5 wr)) (fun i _=>n5 -(intOf i).toNat)
  case atStart=>exact⟨0,Nat.zero_le _,rfl,hId rfl,hId (Mod.refl _ _)⟩
  case round=>
   rename World=>wr
   obtain⟨k,hk,rfl,HE,HM⟩:=hrel
   have HX:=hId (HX5.out.new2 HM.out)
   by_cases hlt:k<n5
   ·have hkl:k<PS.length:=by have:=HPL.out;omega
    obtain⟨g1,o1,hA,htb,hc0⟩:=(HP5.out.new HM.out).2 (by omega)
    subst hA
    have hgl:=htb.lt
    have a0:=hc0 k hkl 0 (by decide)
    have a1:=hc0 k hkl 1 (by decide)
    have HE1:=hId (any_takeP hkl HE.out)
    have HE2:=hId (any_hitP (f:=lackP DS) hkl)
    generalize PS[k]=pt at *
    obtain⟨pk,pn⟩:=pt
    simp only [PartD.enc,Nat.add_zero]at a0 a1
    have HLK:Hid (lackP DS ⟨pk,pn⟩=(decide (pk≠1)&& !hasP DS pn)):=hId rfl
    clear htb hc0 HE
    have hb2:(0:Int)≤k:=by omega
    have hb3:(k:Int)<n5:=by omega
    have hbx:=Blk.new wr 78 #[.int .i64 pk,.string pn]
    have hmx:New wr (wr.alloc (.cells #[.int .i64 pk,.string pn] 78)):=(Mod.refl _ _).alloc _
    go_upto_region 19 with(fail)
    have HMX:=hId (HM.out.trans hmx)
    have HPB2:=hId hbx
    clear hbx hmx a0 a1 hgl
    generalize wr.alloc (.cells #[.int .i64 pk,.string pn] 78)=w6 at *
    generalize wr.heap.size=pb at *
    have p0:=HPB2.out.cell 0
    have p1:=HPB2.out.cell 1
    have pl:=HPB2.out.lt
    simp only [lqt,lqz,lqs]at p0 p1
    by_cases hk1:pk=1
    ·subst hk1
     have HQ3:=hId (HE1.out (by rw [HLK.out];rfl))
     clear HE1 HE2 HLK HX
     go_wp2_with fail
     go_roundw
     case rel=>exact⟨k+1,by omega,by go_num,HQ3,HMX⟩
     case measure=>simp [intOf];omega
    have hk1b:(pk != 1)=true:=by simpa using hk1
    have hcf:=containsFunc_pairQ 55 (.pointer (some ⟨pb,0,none⟩)) enters_back1 w6 A4 n4 c4 l (named1 pn) (HL5.out.new HMX.out) (fun q W hW=>ref_back1 pk pn q pb W (HPB2.out.mod hW (fun e=>e))) (by have:=HL5.out.1;have:=HLL.out;omega)
    have hnm:l.any (named1 pn)=hasP DS pn:=by
     have h5:(l.any fun p=>decide (p.1=pn))=hasP DS pn:=by simpa using HNM.out pn
     exact h5
    rw [hnm]at hcf
    rw [decide_eq_true hk1,Bool.true_and]at HLK
    clear hnm hk1 HPB2
    generalize hasP DS pn=HPN at *
    cases HPN
    ·have HQ3:Hid (backOf r p=(8,[])):=hId (by rw [HQ2.out,if_pos (HE2.out (by rw [HLK.out];rfl))])
     clear HE1 HE2 HLK HX
     go_wp2_with fail
     refine hcf.mono ?_
     clear hcf
     rintro e w7 ⟨rfl,m7⟩
     have HM7:=hId (HM5.out.trans (HMX.out.trans m7))
     clear m7 p0 p1 pl
     go_wp2_with fail
     go_ret2
     exact RTxt.fault HQ3.out HM7.out
    ·have HQ3:=hId (HE1.out (by rw [HLK.out];rfl))
     clear HE1 HE2 HLK HX
     go_wp2_with fail
     refine hcf.mono ?_
     clear hcf
     rintro e w7 ⟨rfl,m7⟩
     have HM7:=hId (HMX.out.trans m7)
     clear m7 p0 p1 pl
     go_wp2_with fail
     go_roundw
     case rel=>exact⟨k+1,by omega,by go_num,HQ3,HM7⟩
     case measure=>simp [intOf];omega
   ·obtain rfl:k=n5:=by omega
    have htk:PS.take k=PS:=List.take_of_length_le (by have:=HPL.out;omega)
    rw [htk]at HE
    have HQ3:Hid (backOf r p=buildOf r.path l):=hId (by rw [HQ2.out,if_neg (by rw [HE.out];decide)])
    have q:=HBL.out wr (HM5.out.trans HM.out) A4 n4 c4 l (HL5.out.new HM.out) HLL.out HV.out HC4.out
    rw [← HQ3.out]at q
    clear HQ2 HQ3 HE htk HBL
    generalize backOf r p=B at *
    obtain⟨be,bt⟩:=B
    unfold RTxt at q
    simp only at q
    have HFIN:Hid (∀ W',New w W'→RTxt (be,bt) w (.returned (.tuple #[.string ⟨bt.toArray⟩,.int .i64 be])) W'):=hId (fun W' hm=>⟨rfl,hm⟩)
    generalize (⟨bt.toArray⟩:ByteArray)=BT at *
    have HM6:=hId (HM5.out.trans HM.out)
    clear HM HM5
    have x0:=HX.out.cell 0
    have x1:=HX.out.cell 1
    have x2:=HX.out.cell 2
    have x3:=HX.out.cell 3
    have x4:=HX.out.cell 4
    have x5:=HX.out.cell 5
    have xl:=HX.out.lt
    simp only [lqt,lqz,lqs]at x0 x1 x2 x3 x4 x5
    go_wp2_with fail
    refine q.mono ?_
    clear q
    rintro e w7 ⟨rfl,m7⟩
    have HM7:=hId (HM6.out.trans m7)
    clear m7
    clear x0 x1 x2 x3 x4 x5 xl
    go_wp2_with fail
    go_ret2
    exact HFIN.out _ HM7.out
set_option maxRecDepth 100000 in
set_option maxHeartbeats 2000000 in
theorem rt_back (x:RA) (r:RtD) (p:ByteArray) (w:World) (h:RtAt w x r) (hr:RtMini r) (hp:p.size≤100000) (hx:MaxLn w):
  Calls Tryz.prog 9 #[x.val,.string p] w (RTxt (if routeF r≠0 then(routeF r,[]) else backOf r p) w):=by
 have HRD:=hId (fun W (hm:New w W)=>rt_readyF x r W (h.new hm) hr.short (hx.new hm))
 have HSG:=hId (fun W (hm:New w W)=>msg_segments p W hp (hx.new hm))
 have HPT:=hId (fun W (hm:New w W)=>msg_normalPath p W hp (hx.new hm))
 have HBL:=hId (fun W (hm:New w W) A' n' c' l (hq:QSl W A' n' l) (hl:l.length≤30) (hv:∀ x∈l,x.2.size≤3100) (hc:n'≤c')=>route_BuildT r.path A' n' c' l W (by have:=hr.path;omega) hq (by have:=hq.1;omega) hc hv (hx.new hm))
 have HB0:=hId (fun e=>backOf_bad (r:=r) (p:=p) e)
 have HB1:=hId (fun e=>backOf_is (r:=r) (p:=p) e)
 have HK:x.path=r.path:=h.path
 have HD:x.dest=r.dest:=h.dest
 have HPS:=hId (tplOf_small r.path).1
 obtain⟨RES,hRES⟩:∃ R,(if routeF r≠0 then(routeF r,[]) else backOf r p)=R:=⟨_,rfl⟩
 have HRS:=hId hRES.symm
 rw [hRES]
 unfold RRdyF at HRD
 rw [routeFP_eq]at HRD
 clear hRES h hr hp hx
 obtain⟨key,ha,hn',hc,path,ma,mn,mc,na,nn,nc,dest⟩:=x
 simp only at HK HD
 subst HK HD
 simp only [RA.val]at HRD ⊢
 generalize routeF r=F at *
 have hb:=Blk.new w 29 #[.string key,.slice ha hn' hc,.string r.path,.slice ma mn mc,.slice na nn nc,.string r.dest]
 have hm:New w (w.alloc (.cells #[.string key,.slice ha hn' hc,.string r.path,.slice ma mn mc,.slice na nn nc,.string r.dest] 29)):=(Mod.refl _ _).alloc _
 go_enter Tryz.func9,Tryz.ntmps9
 go_upto_region 1 with(fail)
 have HX:=hId hb
 have HM:=hId hm
 clear hb hm
 generalize w.alloc (.cells #[.string key,.slice ha hn' hc,.string r.path,.slice ma mn mc,.slice na nn nc,.string r.dest] 29)=w1 at *
 generalize w.heap.size=xb at *
 have q:=HRD.out w1 HM.out
 clear HRD
 have x0:=HX.out.cell 0
 have x1:=HX.out.cell 1
 have x2:=HX.out.cell 2
 have x3:=HX.out.cell 3
 have x4:=HX.out.cell 4
 have x5:=HX.out.cell 5
 have xl:=HX.out.lt
 simp only [lqt,lqz,lqs]at x0 x1 x2 x3 x4 x5
 go_wp2_with fail
 refine q.mono ?_
 clear q
 rintro e w2 ⟨p2,rfl,m2,hp2⟩
 clear x0 x1 x2 x3 x4 x5 xl
 have HX1:=hId (HX.out.new2 m2)
 have HM1:=hId (HM.out.trans m2)
 clear HX HM
 have HX:=HX1
 have HM:=HM1
 clear HX1 HM1
 have x0:=HX.out.cell 0
 have x1:=HX.out.cell 1
 have x2:=HX.out.cell 2
 have x3:=HX.out.cell 3
 have x4:=HX.out.cell 4
 have x5:=HX.out.cell 5
 have xl:=HX.out.lt
 simp only [lqt,lqz,lqs]at x0 x1 x2 x3 x4 x5
 clear m2
 by_cases g0:F≠0
 ·have g0b:(F != 0)=true:=by simpa using g0
  have HQ:=hId (HRS.out.trans (if_pos g0))
  clear HRS g0 hp2 HSG HPT HBL HB0 HB1 HPS
  go_wp2_with fail
  go_ret2
  exact RTxt.fault HQ.out HM.out
 have g0b:(F != 0)=false:=by simpa using g0
 have HRS1:=hId (HRS.out.trans (if_neg g0))
 obtain⟨g,yy,rfl,hgz,hrdy⟩:=hp2 (Decidable.not_not.1 g0)
 have HY:=hId hrdy
 clear HRS g0 hrdy hgz hp2
 have q:=HSG.out w2 HM.out
 clear HSG
 by_cases hs:(segsOf p).1≠0
 ·have HQ:=hId (HRS1.out.trans (HB0.out hs))
  unfold RSegs at q
  have hsb:((segsOf p).1 != 0)=true:=by simpa using hs
  clear HB0 HB1 HPT HBL hs HPS HRS1
  generalize segsOf p=S at *
  obtain⟨s1,s2⟩:=S
  simp only at q HQ hsb
  go_wp2_with fail
  refine q.mono ?_
  clear q
  rintro e w3 ⟨A2,n2,c2,rfl,-,m2,-⟩
  clear x0 x1 x2 x3 x4 x5 xl
  have HX1:=hId (HX.out.new2 m2)
  have HM1:=hId (HM.out.trans m2)
  clear HX HM
  have HX:=HX1
  have HM:=HM1
  clear HX1 HM1
  have x0:=HX.out.cell 0
  have x1:=HX.out.cell 1
  have x2:=HX.out.cell 2
  have x3:=HX.out.cell 3
  have x4:=HX.out.cell 4
  have x5:=HX.out.cell 5
  have xl:=HX.out.lt
  simp only [lqt,lqz,lqs]at x0 x1 x2 x3 x4 x5
  clear m2 HY
  go_wp2_with fail
  go_ret2
  exact RTxt.fault HQ.out HM.out
 have hs0:(segsOf p).1=0:=Decidable.not_not.1 hs
 have HQ:=hId (HRS1.out.trans (HB1.out hs0))
 have HPN:=hId (segsOf_path hs0)
 have HMV:=hId (fun (ps:List PartD) (l:List PairD) (e:matchL ps (segsOf p).2 []=some l)=>matchL_val (Z:=3100) ps _ [] l e (by have:=segs_wtD hs0;omega) (by simp))
 have HML:=hId (fun (ps:List PartD) (l:List PairD) (e:matchL ps (segsOf p).2 []=some l)=>matchL_small ps _ [] l e)
 have HSF:=hId (PFit.of_wt (segs_wtD hs0) (by omega))
 have HSN:=hId (segsOf_ne hs0)
 unfold RSegs at q
 rw [hs0]at q
 clear HB0 HB1 hs hs0 HRS1
 generalize (segsOf p).2=SG at *
 go_wp2_with fail
 refine q.mono ?_
 clear q
 rintro e w3 ⟨A3,n3,c3,rfl,hs3,m3,hc3⟩
 clear x0 x1 x2 x3 x4 x5 xl
 have HX1:=hId (HX.out.new2 m3)
 have HM1:=hId (HM.out.trans m3)
 have HY1:=hId (HY.out.new m3)
 clear HX HM HY
 have HX:=HX1
 have HM:=HM1
 have HY:=HY1
 clear HX1 HM1 HY1
 have x0:=HX.out.cell 0
 have x1:=HX.out.cell 1
 have x2:=HX.out.cell 2
 have x3:=HX.out.cell 3
 have x4:=HX.out.cell 4
 have x5:=HX.out.cell 5
 have xl:=HX.out.lt
 simp only [lqt,lqz,lqs]at x0 x1 x2 x3 x4 x5
 clear m3
 have HS3:=hId hs3
 have HC3:=hId hc3
 have hn3:0<n3:=by have:=HSN.out;have:=hs3.1;omega
 clear hs3 hc3 HSN
 have d1:=str_nil r.dest
 have d2:=emp_is r.dest
 by_cases hd:r.dest=⟨#[]⟩
 ·rw [decide_eq_true hd]at d1 d2
  rw [if_pos hd]at HQ
  have HQ1:Hid (RES=match matchL (tplOf r.path).2 SG []with | none=>(8,[]) | some l=>(0,(pathN p).2)):=hId (by
   rw [HQ.out]
   cases matchL (tplOf r.path).2 SG []with
   | none=>rfl
   | some l=>exact if_pos hd)
  clear HQ hd HPS HBL HMV HML
  have r6:=HY.out.b.cell 6
  have r7:=HY.out.b.cell 7
  have rl:=HY.out.b.lt
  simp only [RdA.cells,lqt,lqz,lqs]at r6 r7
  go_upto_region 10 with(fail)
  have q:=route_match yy.pa yy.pn yy.pc (tplOf r.path).2 A3 n3 c3 SG w3 HY.out.p HS3.out HY.out.pc HSF.out HC3.out hn3
  generalize matchL (tplOf r.path).2 SG []=M at *
  go_wp2_with fail
  refine q.mono ?_
  clear q
  rintro e w4 ⟨A4,n4,c4,rfl,hq4,m4,hc4⟩
  clear r6 r7 rl
  clear x0 x1 x2 x3 x4 x5 xl
  have HX1:=hId (HX.out.new2 m4)
  have HM1:=hId (HM.out.trans m4)
  clear HX HM
  have HX:=HX1
  have HM:=HM1
  clear HX1 HM1
  have x0:=HX.out.cell 0
  have x1:=HX.out.cell 1
  have x2:=HX.out.cell 2
  have x3:=HX.out.cell 3
  have x4:=HX.out.cell 4
  have x5:=HX.out.cell 5
  have xl:=HX.out.lt
  simp only [lqt,lqz,lqs]at x0 x1 x2 x3 x4 x5
  clear m4 hq4 HY HS3 HSF hc4
  cases M with
  | none=>
   have HR:=hId HQ1.out
   simp only at HR
   clear HQ1 HPT
   simp only [Option.isSome_none]
   go_wp2_with fail
   go_ret2
   exact RTxt.fault HR.out HM.out
  | some l=>
   have HR:=hId HQ1.out
   simp only at HR
   clear HQ1
   simp only [Option.isSome_some]
   have q:=HPT.out w4 HM.out
   clear HPT
   unfold RTxt at q
   rw [HPN.out]at q
   generalize (pathN p).2=PN at *
   have HRR:Hid (∀ W',New w W'→RTxt RES w (.returned (.tuple #[.string ⟨PN.toArray⟩,.int .i64 0])) W'):=hId (fun W' hm=>⟨by rw [HR.out],hm⟩)
   clear HR HPN
   generalize (⟨PN.toArray⟩:ByteArray)=PB at *
   go_wp2_with fail
   refine q.mono ?_
   clear q
   rintro e w5 ⟨rfl,m5⟩
   clear x0 x1 x2 x3 x4 x5 xl
   have HX1:=hId (HX.out.new2 m5)
   have HM1:=hId (HM.out.trans m5)
   clear HX HM
   have HX:=HX1
   have HM:=HM1
   clear HX1 HM1
   have x0:=HX.out.cell 0
   have x1:=HX.out.cell 1
   have x2:=HX.out.cell 2
   have x3:=HX.out.cell 3
   have x4:=HX.out.cell 4
   have x5:=HX.out.cell 5
   have xl:=HX.out.lt
   simp only [lqt,lqz,lqs]at x0 x1 x2 x3 x4 x5
   clear m5
   go_wp2_with fail
   go_ret2
   exact HRR.out _ HM.out
 rw [decide_eq_false hd]at d1 d2
 rw [if_neg hd]at HQ
 have HQ1:Hid (RES=match matchL (tplOf r.dest).2 SG []with | none=>(8,[]) | some l=>if (tplOf r.path).2.any (lackP (tplOf r.dest).2) then(8,[]) else buildOf r.path l):=hId (by
  rw [HQ.out]
  cases matchL (tplOf r.dest).2 SG []with
  | none=>rfl
  | some l=>exact if_neg hd)
 have hdp:destP r=(tplOf r.dest).2:=if_neg hd
 have HMV1:=hId (HMV.out (tplOf r.dest).2)
 have HML1:=hId (fun l e=>Nat.le_trans (HML.out (tplOf r.dest).2 l e) (by have:=(tplOf_small r.dest).1;simp only [List.length_nil];omega:_≤30))
 have HYP:=hId HY.out.p
 have HYQ:=hId HY.out.q
 have HYC:=hId HY.out.qc
 rw [hdp]at HYQ
 clear HQ hd HMV HML HPT HPN hdp
 have r6:=HY.out.b.cell 6
 have r7:=HY.out.b.cell 7
 have rl:=HY.out.b.lt
 simp only [RdA.cells,lqt,lqz,lqs]at r6 r7
 go_upto_region 10 with(fail)
 have q:=route_match yy.qa yy.qn yy.qc (tplOf r.dest).2 A3 n3 c3 SG w3 HYQ.out HS3.out HYC.out HSF.out HC3.out hn3
 generalize matchL (tplOf r.dest).2 SG []=M at *
 generalize (tplOf r.dest).2=DS at *
 generalize (tplOf r.path).2=PS at *
 go_wp2_with fail
 refine q.mono ?_
 clear q
 rintro e w4 ⟨A4,n4,c4,rfl,hq4,m4,hc4⟩
 clear r6 r7 rl
 clear x0 x1 x2 x3 x4 x5 xl
 have HX1:=hId (HX.out.new2 m4)
 have HM1:=hId (HM.out.trans m4)
 have HY1:=hId (HY.out.new m4)
 clear HX HM HY
 have HX:=HX1
 have HM:=HM1
 have HY:=HY1
 clear HX1 HM1 HY1
 have x0:=HX.out.cell 0
 have x1:=HX.out.cell 1
 have x2:=HX.out.cell 2
 have x3:=HX.out.cell 3
 have x4:=HX.out.cell 4
 have x5:=HX.out.cell 5
 have xl:=HX.out.lt
 simp only [lqt,lqz,lqs]at x0 x1 x2 x3 x4 x5
 have HYP4:=hId (HYP.out.new m4)
 have HYQ4:=hId (HYQ.out.new m4)
 clear m4 HYP HYQ
 cases M with
 | none=>
  have HR:=hId HQ1.out
  simp only at HR
  clear HQ1 HBL HMV1 HML1 hq4 HPS HS3 HSF HYP4 HYQ4 HYC HY
  simp only [Option.isSome_none]
  go_wp2_with fail
  go_ret2
  exact RTxt.fault HR.out HM.out
 | some l=>
  have HQ2:=hId HQ1.out
  simp only at HQ2
  have HL5:=hId (hq4 l rfl)
  have HC4:=hId hc4
  have HV:=hId (HMV1.out l rfl)
  have HLL:=hId (HML1.out l rfl)
  have HPL:=hId HYP4.out.1
  clear HQ1 HMV1 HML1 hq4 hc4 HS3 HSF
  simp only [Option.isSome_some]
  have r6:=HY.out.b.cell 6
  have r7:=HY.out.b.cell 7
  have rl:=HY.out.b.lt
  simp only [RdA.cells,lqt,lqz,lqs]at r6 r7
  have HX5:=HX
  have HM5:=HM
  have HY5:=HY
  have hpn9:yy.pn≤100000:=HY.out.pc
  go_wp2_with fail
  clear x0 x1 x2 x3 x4 x5 xl
  clear HX HM HY r6 r7 rl
  go_loopw [61] (fun i wr=>∃ k:Nat,k≤yy.pn∧i= .int .i64 k∧Hid ((PS.take k).any (lackP DS)=false)∧Hid (New w4 wr)) (fun i _=>yy.pn -(intOf i).toNat)
  case atStart=>exact⟨0,Nat.zero_le _,rfl,hId rfl,hId (Mod.refl _ _)⟩
  case round=>
   rename World=>wr
   obtain⟨k,hk,rfl,HE,HM⟩:=hrel
   have HX:=hId (HX5.out.new2 HM.out)
   by_cases hlt:k<yy.pn
   ·have hkl:k<PS.length:=by have:=HPL.out;omega
    obtain⟨g1,o1,hA,htb,hc0⟩:=(HYP4.out.new HM.out).2 (by omega)
    have hgl:=htb.lt
    have a0:=hc0 k hkl 0 (by decide)
    have a1:=hc0 k hkl 1 (by decide)
    have HE1:=hId (any_takeP hkl HE.out)
    have HE2:=hId (any_hitP (f:=lackP DS) hkl)
    generalize PS[k]=pt at *
    obtain⟨pk,pn⟩:=pt
    simp only [PartD.enc,Nat.add_zero]at a0 a1
    have HLK:Hid (lackP DS ⟨pk,pn⟩=(decide (pk≠1)&& !hasP DS pn)):=hId rfl
    clear htb hc0 HE
    have hb2:(0:Int)≤k:=by omega
    have hb3:(k:Int)<yy.pn:=by omega
    have hbx:=Blk.new wr 78 #[.int .i64 pk,.string pn]
    have hmx:New wr (wr.alloc (.cells #[.int .i64 pk,.string pn] 78)):=(Mod.refl _ _).alloc _
    rw [hA]
    go_upto_region 18 with(fail)
    have HMX:=hId (HM.out.trans hmx)
    have HPB2:=hId hbx
    clear hbx hmx a0 a1 hgl
    generalize wr.alloc (.cells #[.int .i64 pk,.string pn] 78)=w6 at *
    generalize wr.heap.size=pb at *
    by_cases hk1:pk=1
    ·subst hk1
     have p0:=HPB2.out.cell 0
     have p1:=HPB2.out.cell 1
     have pl:=HPB2.out.lt
     simp only [lqt,lqz,lqs]at p0 p1
     have HQ3:=hId (HE1.out (by rw [HLK.out];rfl))
     clear HE1 HE2 HLK HX
     go_quiet (fail)
     clear p0 p1 pl
     go_wp2_with fail
     go_roundw
     case rel=>exact⟨k+1,by omega,by go_num,HQ3,hId (HMX.out.drewN _)⟩
     case measure=>simp [intOf];omega
    have hk1b:(pk != 1)=true:=by simpa using hk1
    rw [decide_eq_true hk1,Bool.true_and]at HLK
    clear hk1
    have HSC:Hid (∀ W,New w6 W→(W.cell? ⟨pb,0,none⟩=some (.int .i64 pk)∧W.cell? ⟨pb,1,none⟩=some (.string pn)∧pb<W.heap.size∧W.cell? ⟨g,7,none⟩=some (.slice yy.qa yy.qn yy.qc)∧g<W.heap.size)):=hId (fun W hW=>by
     have h1:=HPB2.out.new2 hW
     have h2:=(HY5.out.new (HMX.out.trans hW)).b
     exact⟨(h1.cell 0).trans rfl,(h1.cell 1).trans rfl,h1.lt,(h2.cell 7).trans rfl,h2.lt⟩)
    have hn1:New w6 w6.drew:=(Mod.refl _ _).drew
    have hcf:=route_hasParam yy.qa yy.qn yy.qc DS pn w6.drew (HYQ4.out.new (HMX.out.trans hn1)) HYC.out
    refine wp_region_held_ord (fun W=>W.cell? ⟨pb,0,none⟩=some (.int .i64 pk)∧W.cell? ⟨pb,1,none⟩=some (.string pn)∧pb<W.heap.size∧W.cell? ⟨g,7,none⟩=some (.slice yy.qa yy.qn yy.qc)∧g<W.heap.size) [10] [0,1,2,3,4,5,6,7,8,9,10,11] (by kernel_rfl) (by kernel_rfl) (fun _ _ d _ _ h=>by cases d <;> exact h) ?_ (fun hHeld=>?_)
    ·exact HSC.out _ hn1
    simp only [List.length_cons,List.length_nil,List.drop_succ_cons,List.drop_zero]
    refine heldO_take ?_ (by rfl) (by rfl) (by rfl) (fun w hSw=>?_) ?_
    rotate_left
    ·(try dsimp only at hSw);(try simp only [lgt,lgz,lgs]);go_simp;any_goals (with_reducible rfl)
    simp only [Act.put,lgt,lgz,lgs,lzt,lsz,lss]
    refine heldO_take ?_ (by rfl) (by rfl) (by rfl) (fun w hSw=>?_) ?_
    rotate_left
    ·(try dsimp only at hSw);(try simp only [lgt,lgz,lgs]);go_simp;any_goals (with_reducible rfl)
    simp only [Act.put,lgt,lgz,lgs,lzt,lsz,lss]
    refine heldO_take ?_ (by rfl) (by rfl) (by rfl) (fun w hSw=>?_) ?_
    rotate_left
    ·(try dsimp only at hSw);(try simp only [lgt,lgz,lgs]);go_simp;any_goals (with_reducible rfl)
    simp only [Act.put,lgt,lgz,lgs,lzt,lsz,lss]
    refine heldO_take ?_ (by rfl) (by rfl) (by rfl) (fun w hSw=>?_) ?_
    rotate_left
    ·(try dsimp only at hSw);(try simp only [lgt,lgz,lgs]);go_simp;any_goals (with_reducible rfl)
    simp only [Act.put,lgt,lgz,lgs,lzt,lsz,lss]
    refine heldO_take ?_ (by rfl) (by rfl) (by rfl) (fun w hSw=>?_) ?_
    rotate_left
    ·(try dsimp only at hSw);(try simp only [lgt,lgz,lgs]);go_simp;any_goals (with_reducible rfl)
    simp only [Act.put,lgt,lgz,lgs,lzt,lsz,lss]
    refine heldO_take ?_ (by rfl) (by rfl) (by rfl) (fun w hSw=>?_) ?_
    rotate_left
    ·(try dsimp only at hSw);(try simp only [lgt,lgz,lgs]);go_simp;any_goals (with_reducible rfl)
    simp only [Act.put,lgt,lgz,lgs,lzt,lsz,lss]
    refine heldO_take ?_ (by rfl) (by rfl) (by rfl) (fun w hSw=>?_) ?_
    rotate_left
    ·(try dsimp only at hSw);(try simp only [lgt,lgz,lgs]);go_simp;any_goals (with_reducible rfl)
    simp only [Act.put,lgt,lgz,lgs,lzt,lsz,lss]
    refine heldO_take ?_ (by rfl) (by rfl) (by rfl) (fun w hSw=>?_) ?_
    rotate_left
    ·(try dsimp only at hSw);(try simp only [lgt,lgz,lgs]);go_simp;any_goals (with_reducible rfl)
    simp only [Act.put,lgt,lgz,lgs,lzt,lsz,lss]
    refine heldO_take ?_ (by rfl) (by rfl) (by rfl) (fun w hSw=>?_) ?_
    rotate_left
    ·(try dsimp only at hSw);(try simp only [lgt,lgz,lgs]);go_simp;any_goals (with_reducible rfl)
    simp only [Act.put,lgt,lgz,lgs,lzt,lsz,lss]
    refine heldO_take ?_ (by rfl) (by rfl) (by rfl) (fun w hSw=>?_) ?_
    rotate_left
    ·(try dsimp only at hSw);(try simp only [lgt,lgz,lgs]);go_simp;any_goals (with_reducible rfl)
    simp only [Act.put,lgt,lgz,lgs,lzt,lsz,lss]
    refine heldQ_step (by rfl) (by rfl) (by rfl) (fun K hK=>?_)
    go_simp
    refine hcf.mono ?_
    clear hcf
    rintro e w7 ⟨rfl,m7⟩
    have m67:=hn1.trans m7
    generalize hasP DS pn=HPN at *
    go_wp2_with fail
    refine hK.out _ _ (HSC.out _ m67) (fun hHeld=>?_)
    clear hK K
    try simp only [Act.put,lzt,lsz,lss]
    refine heldO_take ?_ (by rfl) (by rfl) (by rfl) (fun w hSw=>?_) ?_
    rotate_left
    ·(try dsimp only at hSw);(try simp only [lgt,lgz,lgs]);go_simp;any_goals (with_reducible rfl)
    simp only [Act.put,lgt,lgz,lgs,lzt,lsz,lss]
    refine heldO_nil ?_
    have HMX7:=hId (HMX.out.trans m67)
    clear m67 m7 hn1 HSC hHeld HPB2
    cases HPN
    ·have HQ3:Hid (RES=(8,[])):=hId (by rw [HQ2.out,if_pos (HE2.out (by rw [HLK.out];rfl))])
     clear HE1 HE2 HLK HX
     have HM7:=hId (HM5.out.trans HMX7.out)
     go_wp2_with fail
     go_ret2
     exact RTxt.fault HQ3.out HM7.out
    ·have HQ3:=hId (HE1.out (by rw [HLK.out];rfl))
     clear HE1 HE2 HLK HX
     go_wp2_with fail
     go_roundw
     case rel=>exact⟨k+1,by omega,by go_num,HQ3,HMX7⟩
     case measure=>simp [intOf];omega
   ·obtain rfl:k=yy.pn:=by omega
    have htk:PS.take yy.pn=PS:=List.take_of_length_le (by have:=HPL.out;omega)
    rw [htk]at HE
    have HQ3:Hid (RES=buildOf r.path l):=hId (by rw [HQ2.out,if_neg (by rw [HE.out];decide)])
    have q:=HBL.out wr (HM5.out.trans HM.out) A4 n4 c4 l (HL5.out.new HM.out) HLL.out HV.out HC4.out
    rw [← HQ3.out]at q
    clear HQ2 HQ3 HE htk HBL
    obtain⟨be,bt⟩:=RES
    unfold RTxt at q
    simp only at q
    have HFIN:Hid (∀ W',New w W'→RTxt (be,bt) w (.returned (.tuple #[.string ⟨bt.toArray⟩,.int .i64 be])) W'):=hId (fun W' hm=>⟨rfl,hm⟩)
    generalize (⟨bt.toArray⟩:ByteArray)=BT at *
    have HM6:=hId (HM5.out.trans HM.out)
    clear HM HM5
    have x0:=HX.out.cell 0
    have x1:=HX.out.cell 1
    have x2:=HX.out.cell 2
    have x3:=HX.out.cell 3
    have x4:=HX.out.cell 4
    have x5:=HX.out.cell 5
    have xl:=HX.out.lt
    simp only [lqt,lqz,lqs]at x0 x1 x2 x3 x4 x5
    go_wp2_with fail
    refine q.mono ?_
    clear q
    rintro e w7 ⟨rfl,m7⟩
    have HM7:=hId (HM6.out.trans m7)
    clear m7
    clear x0 x1 x2 x3 x4 x5 xl
    go_wp2_with fail
    go_ret2
    exact HFIN.out _ HM7.out
end Go.Proofs.YtnlloaimplgjnaaGreatDoor
