/- Several texts in one. (1) A request asked of the table: in its normal form, with its segments (route.askedOf). Conditions: a request of modest size; the library's variable on searching is an int. (2) How a route's hosts suit a host, the plain law: the reference's maximum is the rank. No program in sight. Conditions: hosts of less than a million bytes. (3) The program's check of a route's To against its Path. Conditions: at most 100000 parts. (4) The program's check of a route (readyOf). Conditions: texts of modest size; the library's variable on searching is an int. -/
import Derived.Test.YtnlloaimplgjnaaGreatDoorQryTGrp
import Derived.Test.YtnlloaimplgjnaaGreatDoorBytesOfGrp
import Derived.Test.YtnlloaimplgjnaaGreatDoorRtLawGrp
import Derived.Test.YtnlloaimplgjnaaGreatDoorRtNeedGrp
import Derived.Test.YtnlloaimplgjnaaGreatDoorSeg3Grp
namespace Go.Proofs.YtnlloaimplgjnaaGreatDoor
open Go.RowKit
set_option linter.unusedVariables false
set_option linter.unusedSimpArgs false
/-- the rows of an asked request -/
structure AkA where
 A:Option Addr
 n:Nat
 c:Nat
 S:Option Addr
 m:Nat
 k:Nat
def askCells (q:ReqL) (y:AkA):Array Value:=#[.int .i64 q.at_,.string q.method,.string q.host,.string q.path,.string q.query,.string q.from_,.slice y.A y.n y.c,.string q.body,.slice y.S y.m y.k,.bool (decide ((segsOf q.path).1≠0))]
/-- an asked request in memory -/
structure AskAt (w:World) (g:Nat) (y:AkA) (q:ReqL):Prop where
 h:HSl w y.A y.n q.heads
 s:SSl w y.S y.m (segsOf q.path).2
 k:y.m≤y.k
 b:Blk w g 69 (askCells q y)
theorem AskAt.new {w w':World} {g:Nat} {y:AkA} {q:ReqL} (h:AskAt w g y q) (hm:New w w'):AskAt w' g y q:=⟨h.h.new hm,h.s.new hm,h.k,h.b.new2 hm⟩
def RAsk (q:Int×ReqL) (w:World) (e:Ending) (w':World):Prop:=∃ p:Option Addr,e= .returned (.tuple #[.pointer p,.int .i64 q.1])∧New w w'∧(q.1=0→∃(g:Nat) (y:AkA),p=some ⟨g,0,none⟩∧w.heap.size≤g∧AskAt w' g y q.2)
theorem normOf_path {D:ReqL} (h:(normOf D).1=0):(normOf D).2.path.size≤3002:=by
 have e:normOf D=if reqF D≠0 then(reqF D,zReqL) else if (pathN D.path).1≠0 then((pathN D.path).1,zReqL) else
  if (queryOf D.query).1≠0 then((queryOf D.query).1,zReqL) else
  if (queryT (sortQ (queryOf D.query).2)).1≠0 then((queryT (sortQ (queryOf D.query).2)).1,zReqL) else
  (0,{D with method:=upS D.method,host:=⟨(hostN D.host.data.toList).toArray⟩,path:=⟨(pathN D.path).2.toArray⟩,query:=⟨(queryT (sortQ (queryOf D.query).2)).2.toArray⟩,heads:=lowH D.heads}):=rfl
 rw [e]at h ⊢
 by_cases g0:reqF D≠0
 ·rw [if_pos g0]at h;exact absurd h g0
 rw [if_neg g0]at h ⊢
 by_cases g1:(pathN D.path).1≠0
 ·rw [if_pos g1]at h;exact absurd h g1
 rw [if_neg g1]at h ⊢
 by_cases g2:(queryOf D.query).1≠0
 ·rw [if_pos g2]at h;exact absurd h g2
 rw [if_neg g2]at h ⊢
 by_cases g3:(queryT (sortQ (queryOf D.query).2)).1≠0
 ·rw [if_pos g3]at h;exact absurd h g3
 rw [if_neg g3]
 have h0:(pathN D.path).1=0:=by simpa using g1
 obtain⟨t,ht,hl⟩:=pathN_ok h0 (pathN_small h0)
 show(List.toArray _).size≤_
 rw [ht,List.size_toArray,List.length_cons]
 omega
set_option maxRecDepth 100000 in
set_option maxHeartbeats 1500000 in
theorem rt_askedOf (r:ReqD) (ls:List PairD) (w:World) (h:HSl w r.ha r.hn ls) (hf:r.Fit ls) (hx:MaxLn w):
  Calls Tryz.prog 27 #[r.val] w (RAsk (normOf (r.data ls)) w):=by
 have HQN:=hId (fun W (hm:New w W)=>msg_normal r ls W (h.new hm) hf (hx.new hm))
 have HPZ:=hId (fun e=>normOf_path (D:=r.data ls) e)
 generalize normOf (r.data ls)=D at *
 obtain⟨de,D⟩:=D
 obtain⟨at_,me,ho,pa,qu,fr,A,n,c,bo⟩:=r
 unfold RNrm at HQN
 simp only [ReqD.val]at HQN HPZ ⊢
 have HHX:=hId hx
 clear h hf hx
 have hb:=Blk.new w 33 #[.int .i64 at_,.string me,.string ho,.string pa,.string qu,.string fr,.slice A n c,.string bo]
 have hm:New w (w.alloc (.cells #[.int .i64 at_,.string me,.string ho,.string pa,.string qu,.string fr,.slice A n c,.string bo] 33)):=(Mod.refl _ _).alloc _
 go_enter Tryz.func27,Tryz.ntmps27
 go_upto_region 1 with(fail)
 have HX:=hId hb
 have HM:=hId hm
 clear hb hm
 generalize w.alloc (.cells #[.int .i64 at_,.string me,.string ho,.string pa,.string qu,.string fr,.slice A n c,.string bo] 33)=w1 at *
 generalize hxb:w.heap.size=xb at *
 have HXB:=hId hxb
 clear hxb
 have q:=HQN.out w1 HM.out
 clear HQN
 have e0:=HX.out.cell 0
 have e1:=HX.out.cell 1
 have e2:=HX.out.cell 2
 have e3:=HX.out.cell 3
 have e4:=HX.out.cell 4
 have e5:=HX.out.cell 5
 have e6:=HX.out.cell 6
 have e7:=HX.out.cell 7
 have el:=HX.out.lt
 simp only [lqt,lqz,lqs]at e0 e1 e2 e3 e4 e5 e6 e7
 go_wp2_with fail
 refine q.mono ?_
 clear q e0 e1 e2 e3 e4 e5 e6 e7 el
 rintro e w2 ⟨A2,n2,c2,rfl,hs2,m2⟩
 have HX2:=hId (HX.out.new2 m2)
 have HM2:=hId (HM.out.trans m2)
 have HH2:=hId hs2
 clear HX HM m2 hs2
 obtain⟨q0,q1,q2,q3,q4,q5,q6,q7⟩:=D
 simp only [reqV]at HPZ HH2 ⊢
 have hfx:=HX2.out.frozen
 have el:=HX2.out.lt
 have hcX:=HX2.out.cell
 by_cases g0:de≠0
 ·have g0b:(de != 0)=true:=by simpa using g0
  have HMX:=hId (fun (v0 v1 v2 v3 v4 v5 v6 v7:Value)=>(Mod.set8 xb w2 v0 v1 v2 v3 v4 v5 v6 v7))
  have HFIN:Hid (∀ W',Mod (fun k=>k=xb) w2 W'→New w W'):=hId (fun W' hm=>HM2.out.step hm (fun i hi e=>by have:=HXB.out;omega))
  go_wp2_with fail
  go_ret2
  exact⟨none,rfl,HFIN.out _ (HMX.out _ _ _ _ _ _ _ _),fun e=>absurd e g0⟩
 have g0b:(de != 0)=false:=by simpa using g0
 have hd0:de=0:=by simpa using g0
 subst hd0
 go_upto_region 4 with(fail)
 have HX3:=hId ((((((((HX2.out.set 0 (.int .i64 q0)).set 1 (.string q1)).set 2 (.string q2)).set 3 (.string q3)).set 4 (.string q4)).set 5 (.string q5)).set 6 (.slice A2 n2 c2)).set 7 (.string q7))
 simp only [Array.setIfInBounds,List.size_toArray,List.length_cons,List.length_nil,Nat.reduceAdd,Nat.reduceLT,↓reduceDIte,List.set_toArray,lsz,lss]at HX3
 have HMX:Hid (Mod (fun k=>k=xb) w2 ((((((((w2.setCell ⟨xb,0,none⟩ (.int .i64 q0)).setCell ⟨xb,1,none⟩ (.string q1)).setCell ⟨xb,2,none⟩ (.string q2)).setCell ⟨xb,3,none⟩ (.string q3)).setCell ⟨xb,4,none⟩ (.string q4)).setCell ⟨xb,5,none⟩ (.string q5)).setCell ⟨xb,6,none⟩ (.slice A2 n2 c2)).setCell ⟨xb,7,none⟩ (.string q7))):=hId (Mod.set8 xb w2 _ _ _ _ _ _ _ _)
 have HM3:=hId (HM2.out.step HMX.out (fun i hi e=>by have:=HXB.out;omega))
 have HH3:=hId (HH2.out.mod HMX.out (fun g hg e=>hg.ne HX2.out.tb (by decide) e))
 clear HX2 HM2 HMX HH2 hfx el hcX
 generalize ((((((((w2.setCell ⟨xb,0,none⟩ (.int .i64 q0)).setCell ⟨xb,1,none⟩ (.string q1)).setCell ⟨xb,2,none⟩ (.string q2)).setCell ⟨xb,3,none⟩ (.string q3)).setCell ⟨xb,4,none⟩ (.string q4)).setCell ⟨xb,5,none⟩ (.string q5)).setCell ⟨xb,6,none⟩ (.slice A2 n2 c2)).setCell ⟨xb,7,none⟩ (.string q7))=w3 at *
 have q:=msg_segments q3 w3 (by have:=HPZ.out rfl;omega) (HHX.out.new HM3.out)
 unfold RSegs at q
 have hB3:=HX3.out.lt
 have e0:=HX3.out.cell 0
 have e1:=HX3.out.cell 1
 have e2:=HX3.out.cell 2
 have e3:=HX3.out.cell 3
 have e4:=HX3.out.cell 4
 have e5:=HX3.out.cell 5
 have e6:=HX3.out.cell 6
 have e7:=HX3.out.cell 7
 simp only [lqt,lqz,lqs]at e0 e1 e2 e3 e4 e5 e6 e7
 obtain⟨G,hG⟩:∃ G,segsOf q3=G:=⟨_,rfl⟩
 rw [hG]at q
 have HAK:Hid (∀ S m k,askCells ⟨q0,q1,q2,q3,q4,q5,q6,q7⟩ ⟨A2,n2,c2,S,m,k⟩= #[.int .i64 q0,.string q1,.string q2,.string q3,.string q4,.string q5,.slice A2 n2 c2,.string q7,.slice S m k,.bool (decide (G.1≠0))]):=hId (fun _ _ _=>by rw [← hG];rfl)
 have HSG:Hid (∀ w' S m,SSl w' S m G.2→SSl w' S m (segsOf q3).2):=hId (fun _ _ _ h=>by rw [hG];exact h)
 clear hG
 obtain⟨ge,gl⟩:=G
 simp only at q HAK HSG
 go_wp2_with fail
 refine q.mono ?_
 clear q e0 e1 e2 e3 e4 e5 e6 e7 hB3
 rintro e w4 ⟨S4,m4,k4,rfl,hs4,m34,hk4⟩
 have HX4:=hId (HX3.out.new2 m34)
 have HM4:=hId (HM3.out.trans m34)
 have HH4:=hId (HH3.out.new m34)
 have HS4:=hId hs4
 clear HX3 HM3 HH3 m34 hs4
 have hB4:=HX4.out.lt
 have e0:=HX4.out.cell 0
 have e1:=HX4.out.cell 1
 have e2:=HX4.out.cell 2
 have e3:=HX4.out.cell 3
 have e4:=HX4.out.cell 4
 have e5:=HX4.out.cell 5
 have e6:=HX4.out.cell 6
 have e7:=HX4.out.cell 7
 simp only [lqt,lqz,lqs]at e0 e1 e2 e3 e4 e5 e6 e7
 have bn:=Blk.new w4 69 #[.int .i64 q0,.string q1,.string q2,.string q3,.string q4,.string q5,.slice A2 n2 c2,.string q7,.slice S4 m4 k4,.bool (decide (ge≠0))]
 have mn:New w4 (w4.alloc (.cells #[.int .i64 q0,.string q1,.string q2,.string q3,.string q4,.string q5,.slice A2 n2 c2,.string q7,.slice S4 m4 k4,.bool (decide (ge≠0))] 69)):=(Mod.refl _ _).alloc _
 have HFIN:Hid (RAsk (0,⟨q0,q1,q2,q3,q4,q5,q6,q7⟩) w (.returned (.tuple #[.pointer (some ⟨w4.heap.size,0,none⟩),.int .i64 0])) (w4.alloc (.cells #[.int .i64 q0,.string q1,.string q2,.string q3,.string q4,.string q5,.slice A2 n2 c2,.string q7,.slice S4 m4 k4,.bool (decide (ge≠0))] 69))):=hId ⟨_,rfl,HM4.out.trans mn,fun _=>⟨_,⟨A2,n2,c2,S4,m4,k4⟩,rfl,by have:=HXB.out;omega,⟨HH4.out.new mn,HSG.out _ _ _ (HS4.out.new mn),hk4,by rw [HAK.out];exact bn⟩⟩⟩
 clear bn mn HX4 HM4 HH4 HS4 HAK HSG
 by_cases g1:ge≠0
 ·have g1b:(ge != 0)=true:=by simpa using g1
  rw [decide_eq_true g1]at HFIN
  go_wp2_with fail
  go_ret2
  exact HFIN.out
 ·have g1b:(ge != 0)=false:=by simpa using g1
  rw [decide_eq_false g1]at HFIN
  go_wp2_with fail
  go_ret2
  exact HFIN.out
def stepN (host:ByteArray) (b:Nat) (h:ByteArray):Nat:=if exactH host h then max b 1048576 else if starM host h then max b (1+h.size) else b
theorem starM_pos {host h:ByteArray} (hs:starM host h=true):0<h.size:=by
 unfold starM starH Lib.hasPrefix at hs
 simp only [Bool.and_eq_true]at hs
 have h1:=hs.1
 have:h.data.toList.length=h.size:=rfl
 cases hd:h.data.toList with
 | nil=>rw [hd]at h1;simp at h1
 | cons a l=>rw [← this,hd];simp
def encN (m:Nat):Nat:=if m=0 then 0 else 1+m
theorem fold_star (host:ByteArray):∀(l:List ByteArray) (m:Nat),l.any (exactH host)=false→l.foldl (stepN host) (encN m)=encN (longH host l m)
 | [],m,_=>rfl
 | h::l,m,he=>by
  rw [List.any_cons,Bool.or_eq_false_iff]at he
  have e:stepN host (encN m) h=encN (if starM host h&&decide (m<h.size) then h.size else m):=by
   unfold stepN
   rw [he.1,if_neg (by simp)]
   cases hs:starM host h
   ·simp
   ·have hp:=starM_pos hs
    rw [if_pos rfl,Bool.true_and]
    by_cases hm:m<h.size
    ·have e1:(if decide (m<h.size)=true then h.size else m)=h.size:=if_pos (by simpa using hm)
     rw [e1]
     unfold encN
     rw [if_neg (show ¬ h.size=0 by omega)]
     split <;> omega
    ·have e1:(if decide (m<h.size)=true then h.size else m)=m:=if_neg (by simpa using hm)
     rw [e1]
     unfold encN
     rw [if_neg (show ¬ m=0 by omega)]
     omega
  rw [List.foldl_cons,e,fold_star host l _ he.2]
  rfl
theorem fold_le (host:ByteArray):∀(l:List ByteArray) (b:Nat),(∀ h∈l,h.size<1048575)→b≤1048576→l.foldl (stepN host) b≤1048576∧(b=1048576∨l.any (exactH host)=true→l.foldl (stepN host) b=1048576)
 | [],b,_,hb=>⟨hb,fun h=>by rcases h with h | h;exact h;cases h⟩
 | h::l,b,hz,hb=>by
  have hz1:=hz h List.mem_cons_self
  have hs:stepN host b h≤1048576:=by unfold stepN;split;omega;split <;> omega
  obtain⟨h1,h2⟩:=fold_le host l (stepN host b h) (fun x hx=>hz x (List.mem_cons_of_mem _ hx)) hs
  rw [List.foldl_cons]
  refine⟨h1,fun h=>?_⟩
  rcases h with h | h
  ·refine h2 (.inl ?_)
   unfold stepN
   subst h
   split
   ·omega
   ·split <;> omega
  ·rw [List.any_cons,Bool.or_eq_true]at h
   rcases h with h | h
   ·refine h2 (.inl ?_)
    unfold stepN
    rw [if_pos h]
    omega
   ·exact h2 (.inr h)
theorem rankN_fold {hosts:List ByteArray} (host:ByteArray) (h0:hosts≠[]) (hz:∀ h∈hosts,h.size<1048575):hosts.foldl (stepN host) 0=rankN hosts host:=by
 unfold rankN
 rw [if_neg h0]
 cases he:hosts.any (exactH host)
 ·rw [if_neg (by simp)]
  have:=fold_star host hosts 0 he
  exact this
 ·rw [if_pos rfl]
  exact(fold_le host hosts 0 hz (by omega)).2 (.inr he)
theorem longH_take {host:ByteArray} {l:List ByteArray} {k:Nat} (h:k<l.length) (m:Nat):longH host (l.drop k) m=longH host (l.drop (k+1)) (if starM host l[k]&&decide (m<l[k].size) then l[k].size else m):=by
 rw [List.drop_eq_getElem_cons h,longH]
theorem longH_le {host:ByteArray} {Z:Nat}:∀(l:List ByteArray) (m:Nat),(∀ h∈l,h.size≤Z)→m≤Z→longH host l m≤Z
 | [],m,_,h=>h
 | x::l,m,hz,h=>by
  rw [longH]
  refine longH_le l _ (fun y hy=>hz y (List.mem_cons_of_mem _ hy)) ?_
  split
  ·exact hz x List.mem_cons_self
  ·exact h
/-- the kind of the first parameter with a name -/
def kindAt (P:List PartD) (s:ByteArray):Int:=((P.find? (isPar s)).map (·.kind)).getD 0
def toA (P T:List PartD):Bool:=T.any fun p=>decide (p.kind≠1)&& !hasP P p.name
def toB (P T:List PartD):Bool:=T.any fun p=>decide (p.kind≠1)&&decide (kindAt P p.name≠p.kind)
def toFP (P T:List PartD):Int:=if toA P T=true then 8 else if toB P T=true then 10 else 0
theorem firstP_find {α:Type} (f:α→Bool) (l:List α) (h:l.any f=true):∃(i:Nat) (hi:i<l.length),firstP (fun i=>(l[i]?).any f) l.length=i∧l.find? f=some l[i]:=by
 rw [List.any_eq_true]at h
 obtain⟨x,hx,hf⟩:=h
 cases e:l.find? f with
 | none=>rw [List.find?_eq_none]at e;exact absurd hf (e x hx)
 | some y=>
  obtain⟨h1,i,hi,rfl,h2⟩:=List.find?_eq_some_iff_getElem.1 e
  refine⟨i,hi,firstP_hit hi (by rw [List.getElem?_eq_getElem hi];exact h1) (fun j hj=>?_),rfl⟩
  rw [List.getElem?_eq_getElem (by omega)]
  have:=h2 j hj
  simpa using this
set_option maxHeartbeats 1000000 in
theorem route_topar (p:PartD) (g:Nat) (k:Int) (s:ByteArray) (w:World) (hg:Blk w g 78 #[.int .i64 k,.string s]):
  Calls Tryz.prog 143 #[p.val,.pointer (some ⟨g,0,none⟩)] w fun e w'=>e= .returned (.bool (isPar s p))∧New w w':=by
 obtain⟨pk,pn⟩:=p
 have hx:=Blk.new w 78 #[.int .i64 pk,.string pn]
 have hb:=hg.new2 ((Mod.refl (fun _=>False) w).alloc (.cells #[.int .i64 pk,.string pn] 78))
 have hlt:=hb.lt
 have hgl:=hg.lt
 have hc:=hb.cell 1
 simp only [lqt,lqz,lqs]at hc
 have hbq:=str_beq pn s
 have HM:Hid (New w (w.alloc (.cells #[.int .i64 pk,.string pn] 78))):=hId ((Mod.refl _ _).alloc _)
 unfold PartD.val isPar
 simp only
 clear hb hg hx
 by_cases hk:pk=1
 ·subst hk
  go_enter Tryz.func143,Tryz.ntmps143
  go_wp2_with fail
  go_ret
  exact⟨rfl,HM.out⟩
 ·have hk1:((pk:Int) != 1)=true:=by simpa using hk
  generalize decide (pn=s)=r at *
  rw [decide_eq_true hk]
  go_enter Tryz.func143,Tryz.ntmps143
  go_wp2_with fail
  all_goals go_ret
  all_goals exact⟨ret_bool (by simp_all),HM.out⟩
theorem enters_topar (args:Array Value) (w:World):(callFunc 143 args).run Tryz.prog w= .ok (.enter 143 args) w:=by
 go_simp
theorem any_step {α:Type} (f:α→Bool) {l:List α} {k:Nat} (h:k<l.length) (hk:(l.take k).any f=false):(f l[k]=true→l.any f=true)∧(f l[k]=false→(l.take (k+1)).any f=false):=by
 refine⟨fun e=>List.any_eq_true.2 ⟨l[k],List.getElem_mem h,e⟩,fun e=>?_⟩
 rw [List.take_succ_eq_append_getElem h,List.any_append,hk]
 simp [e]
set_option maxRecDepth 100000 in
set_option maxHeartbeats 1000000 in
theorem rt_toFault (A1 A2:Option Addr) (n1 c1 n2 c2:Nat) (P T:List PartD) (w:World) (h1:PSl w A1 n1 P) (h2:PSl w A2 n2 T) (hn1:n1≤100000) (hn2:n2≤100000):
  Calls Tryz.prog 78 #[.slice A1 n1 c1,.slice A2 n2 c2] w fun e w'=>e= .returned (.int .i64 (toFP P T))∧New w w':=by
 have hl1:=h1.1
 have hl2:=h2.1
 have HS1:=hId h1
 have HS2:=hId h2
 have HL1:=hId hl1
 have HL2:=hId hl2
 clear h1 h2 hl1 hl2
 go_enter Tryz.func78,Tryz.ntmps78
 go_wp2_with fail
 go_loopw [12] (fun i wr=>∃ k:Nat,k≤n2∧i= .int .i64 k∧Hid ((T.take k).any (fun p=>decide (p.kind≠1)&& !hasP P p.name)=false)∧Hid (New w wr)) (fun i _=>n2 -(intOf i).toNat)
 case atStart=>exact⟨0,Nat.zero_le _,rfl,hId rfl,hId (Mod.refl _ _)⟩
 case round=>
  rename World=>wr
  obtain⟨k,hk,rfl,HR,HM⟩:=hrel
  by_cases hlt:k<n2
  ·have hkl:k<T.length:=by have:=HL2.out;omega
   have HAS:=hId (any_step (fun p=>decide (p.kind≠1)&& !hasP P p.name) hkl HR.out)
   obtain⟨g,o,hA,htb,hc0⟩:=(HS2.out.new HM.out).2 (by omega)
   subst hA
   have hgl:=htb.lt
   have a0:=hc0 k hkl 0 (by omega)
   have a1:=hc0 k hkl 1 (by omega)
   simp only [PartD.enc,Nat.add_zero]at a0 a1
   clear htb hc0
   generalize T[k]=x at *
   obtain⟨xk,xn⟩:=x
   simp only at a0 a1 HAS
   have hb2:(0:Int)≤k:=by omega
   have hb3:(k:Int)<n2:=by omega
   have bp:=Blk.new wr 78 #[.int .i64 xk,.string xn]
   have mp:New wr (wr.alloc (.cells #[.int .i64 xk,.string xn] 78)):=(Mod.refl _ _).alloc _
   have hq:=route_hasParam A1 n1 c1 P xn _ ((HS1.out.new HM.out).new mp) hn1
   have p0:=bp.cell 0
   have p1:=bp.cell 1
   have pl:=bp.lt
   simp only [lqt,lqz,lqs]at p0 p1
   have HMP:=hId (HM.out.trans mp)
   clear bp mp
   go_upto_region 4 with(fail)
   generalize wr.alloc (.cells #[.int .i64 xk,.string xn] 78)=w1 at *
   generalize wr.heap.size=pb at *
   by_cases hxk:xk=1
   ·have hk1:(xk != 1)=false:=by simpa using hxk
    have HN:=hId (HAS.out.2 (by simp [hxk]))
    clear hxk hq
    go_wp2_with fail
    exact⟨⟨k+1,by omega,by go_num,HN,HMP⟩,by simp [intOf];omega⟩
   ·have hk1:(xk != 1)=true:=by simpa using hxk
    cases hh:hasP P xn
    ·have HE:Hid (toFP P T=8):=hId (by unfold toFP toA;rw [if_pos (HAS.out.1 (by simp [hxk,hh]))])
     rw [hh]at hq
     clear hxk hh
     go_wp2_with fail
     refine hq.mono ?_
     clear hq
     rintro e w2 ⟨rfl,m2⟩
     have HM2:=hId (HMP.out.trans m2)
     go_wp2_with fail
     go_ret
     exact⟨ret_int HE.out.symm,HM2.out⟩
    ·have HN:=hId (HAS.out.2 (by simp [hh]))
     rw [hh]at hq
     clear hxk hh
     go_wp2_with fail
     refine hq.mono ?_
     clear hq
     rintro e w2 ⟨rfl,m2⟩
     have HM2:=hId (HMP.out.trans m2)
     go_wp2_with fail
     exact⟨⟨k+1,by omega,by go_num,HN,HM2⟩,by simp [intOf];omega⟩
  ·obtain rfl:n2=k:=by omega
   have HA0:Hid (toA P T=false):=hId (by
    have h:=HR.out
    rw [← HL2.out,List.take_length]at h
    exact h)
   clear HR
   go_wp2_with fail
   go_loopw [29] (fun i wr=>∃ k:Nat,k≤n2∧i= .int .i64 k∧Hid ((T.take k).any (fun p=>decide (p.kind≠1)&&decide (kindAt P p.name≠p.kind))=false)∧Hid (New w wr)) (fun i _=>n2 -(intOf i).toNat)
   case atStart=>exact⟨0,Nat.zero_le _,rfl,hId rfl,HM⟩
   clear HM
   case round=>
    rename World=>wr
    obtain⟨k,hk,rfl,HR,HM⟩:=hrel
    by_cases hlt:k<n2
    ·have hkl:k<T.length:=by have:=HL2.out;omega
     have HAS:=hId (any_step (fun p=>decide (p.kind≠1)&&decide (kindAt P p.name≠p.kind)) hkl HR.out)
     have HAP:Hid (T[k].kind≠1→hasP P T[k].name=true):=hId (fun e=>by
      have h:=HA0.out
      unfold toA at h
      rw [List.any_eq_false]at h
      have h2:=h _ (List.getElem_mem hkl)
      simp [e]at h2
      exact h2)
     obtain⟨g,o,hA,htb,hc0⟩:=(HS2.out.new HM.out).2 (by omega)
     subst hA
     have hgl:=htb.lt
     have a0:=hc0 k hkl 0 (by omega)
     have a1:=hc0 k hkl 1 (by omega)
     simp only [PartD.enc,Nat.add_zero]at a0 a1
     clear htb hc0
     generalize T[k]=x at *
     obtain⟨xk,xn⟩:=x
     simp only at a0 a1 HAS HAP
     have hb2:(0:Int)≤k:=by omega
     have hb3:(k:Int)<n2:=by omega
     have bp:=Blk.new wr 78 #[.int .i64 xk,.string xn]
     have mp:New wr (wr.alloc (.cells #[.int .i64 xk,.string xn] 78)):=(Mod.refl _ _).alloc _
     have p0:=bp.cell 0
     have pl:=bp.lt
     simp only [lqt,lqz,lqs]at p0
     have HMP:=hId (HM.out.trans mp)
     have HBP:=hId bp
     clear bp mp
     go_upto_region 10 with(fail)
     clear a0 a1 hgl
     generalize wr.alloc (.cells #[.int .i64 xk,.string xn] 78)=w1 at *
     generalize wr.heap.size=pb at *
     by_cases hxk:xk=1
     ·have hk1:(xk == 1)=true:=by simpa using hxk
      have HN:=hId (HAS.out.2 (by simp [hxk]))
      clear hxk
      go_wp2_with fail
      exact⟨⟨k+1,by omega,by go_num,HN,HMP⟩,by simp [intOf];omega⟩
     ·have hk1:(xk == 1)=false:=by simpa using hxk
      have hix:=indexFunc_part 143 (.pointer (some ⟨pb,0,none⟩)) enters_topar w1 A1 n1 c1 P xn (HS1.out.new HMP.out) (fun p wq hw=>route_topar p pb xk xn wq (HBP.out.new2 hw)) hn1
      obtain⟨i,hi,e1,e2⟩:=firstP_find (isPar xn) P (by have:=HAP.out hxk;unfold hasP at this;exact this)
      rw [HL1.out]at e1
      rw [e1]at hix
      have HKA:Hid (kindAt P xn=P[i].kind):=hId (by unfold kindAt;rw [e2];rfl)
      clear e1 e2
      go_wp2_with fail
      clear p0 pl
      refine hix.mono ?_
      clear hix
      rintro e w2 ⟨rfl,m2⟩
      have HM2:=hId (HMP.out.trans m2)
      have bp2:=HBP.out.new2 m2
      have p0:=bp2.cell 0
      have pl:=bp2.lt
      simp only [lqt,lqz,lqs]at p0
      clear bp2 m2
      have hin:i<n1:=by have:=HL1.out;omega
      obtain⟨g1,o1,hA1,tb1,k1⟩:=(HS1.out.new HM2.out).2 (by omega)
      subst hA1
      have gl1:=tb1.lt
      have b0:=k1 i hi 0 (by omega)
      simp only [PartD.enc,Nat.add_zero]at b0
      clear k1 tb1
      have hb5:(0:Int)≤i:=by omega
      have hb6:(i:Int)<n1:=by omega
      generalize P[i].kind=y at *
      by_cases hy:y=xk
      ·have hyb:(y != xk)=false:=by simpa using hy
       have HN:=hId (HAS.out.2 (by simp [HKA.out,hy]))
       clear hy hxk
       go_wp2_with fail
       go_quiet (fail)
       go_wp2_with fail
       exact⟨⟨k+1,by omega,by go_num,HN,hId (HM2.out.drewN _)⟩,by simp [intOf];omega⟩
      ·have hyb:(y != xk)=true:=by simpa using hy
       have HE:Hid (toFP P T=10):=hId (by
        unfold toFP
        rw [if_neg (by rw [HA0.out];exact Bool.false_ne_true),if_pos]
        exact HAS.out.1 (by simp [HKA.out,hy,hxk]))
       clear hy hxk
       go_wp2_with fail
       go_quiet (fail)
       go_wp2_with fail
       go_ret
       exact⟨ret_int HE.out.symm,HM2.out.drewN _⟩
    ·obtain rfl:n2=k:=by omega
     have HE:Hid (toFP P T=0):=hId (by
      have h:=HR.out
      rw [← HL2.out,List.take_length]at h
      unfold toFP toB
      rw [HA0.out,h]
      rfl)
     go_wp2_with fail
     go_ret
     exact⟨ret_int HE.out.symm,HM.out⟩
/-- what is wrong with a route, as the program finds it -/
def routeFP (r:RtD):Int:=
 if !isKey r.key then 5 else if hostsF r.hosts≠0 then hostsF r.hosts else if (tplOf r.path).1≠0 then(tplOf r.path).1 else
 if methodsF r.methods≠0 then methodsF r.methods else if needsF r.needs≠0 then needsF r.needs else
 if r.dest=⟨#[]⟩ then 0 else if (tplOf r.dest).1≠0 then(tplOf r.dest).1 else toFP (tplOf r.path).2 (tplOf r.dest).2
theorem routeF_eq {r:RtD} (h:(tplOf r.path).1=0→(tplOf r.dest).1=0→toFP (tplOf r.path).2 (tplOf r.dest).2=toF (tplOf r.path).2 (tplOf r.dest).2):routeFP r=routeF r:=by
 unfold routeFP routeF
 by_cases h1:(tplOf r.path).1=0
 ·by_cases h2:(tplOf r.dest).1=0
  ·rw [h h1 h2]
  ·simp only [h2,ne_eq,not_false_eq_true,if_true]
 ·simp only [h1,ne_eq,not_false_eq_true,if_true]
end Go.Proofs.YtnlloaimplgjnaaGreatDoor
