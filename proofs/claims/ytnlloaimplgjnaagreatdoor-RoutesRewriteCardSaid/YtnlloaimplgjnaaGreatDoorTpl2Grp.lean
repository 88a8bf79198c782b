/- Several texts in one. (1) A segment of a template that is words (package route). Conditions: a segment of modest size. (2) What the functions of the stream of numbers hand out: numbers in their ranges, and which memory they turn. Conditions: the stream lies in a block of its own and has been asked fewer than 2^62 times. (3) Tools for texts: strconv's table and Itoa, strings.Builder, Split and Cut, words and lines of a text. Conditions: modest sizes, the library's variables as they should lie. -/
import Derived.Test.YtnlloaimplgjnaaGreatDoorSeg3Grp
import Derived.Test.YtnlloaimplgjnaaGreatDoorBase
import Derived.Test.YtnlloaimplgjnaaGreatDoorShelf
import Derived.Test.YtnlloaimplgjnaaGreatDoorMatLawGrp
import Derived.Lib.LaidTab
import Derived.Lib.ItoaLen
import Derived.Lib.AtoiErrMem
import Derived.Lib.SplitLaws
import Derived.Lib.SlicesS
namespace Go.Proofs.YtnlloaimplgjnaaGreatDoor
open Go.RowKit
set_option linter.unusedVariables false
set_option linter.unusedSimpArgs false
theorem indexAny_any (cs:List UInt8):∀ l:List UInt8,decide (0≤Lib.indexAny l cs)=l.any (cs.contains ·)
 | []=>by simp [Lib.indexAny]
 | a::l=>by
  have ih:=indexAny_any cs l
  rw [List.any_cons,←ih,Lib.indexAny]
  have hge:=Lib.indexAny_ge cs l
  cases h:cs.contains a
  ·simp only [Bool.false_eq_true,if_false,Bool.false_or]
   by_cases e:Lib.indexAny l cs= -1
   ·rw [e];simp
   ·rw [if_neg (by simpa using e),Bool.eq_iff_iff]
    simp only [decide_eq_true_eq]
    omega
  ·simp
theorem containsAny_any (l cs:List UInt8):Lib.containsAny l cs=l.any (cs.contains ·):=indexAny_any cs l
theorem bad_split (l:List UInt8):l.any (fun c=>badC c.toNat)=(!(inR 33 126 l)||Lib.containsAny l [63,35]||Lib.containsAny l [123,125]):=by
 rw [containsAny_any,containsAny_any]
 unfold inR
 induction l with
 | nil=>rfl
 | cons a l ih=>
  simp only [List.any_cons,List.all_cons]
  rw [ih]
  have h1:badC a.toNat=(!(decide (33≤a.toNat)&&decide (a.toNat≤126))||List.contains [63,35] a||List.contains [123,125] a):=by
   revert a
   apply byteOf
   decide +kernel
  rw [h1]
  generalize (decide (33≤a.toNat)&&decide (a.toNat≤126))=p1
  generalize List.contains [63,35] a=p2
  generalize List.contains [123,125] a=p3
  generalize (l.all fun c=>decide (33≤c.toNat)&&decide (c.toNat≤126))=q1
  generalize (l.any fun x=>List.contains [63,35] x)=q2
  generalize (l.any fun x=>List.contains [123,125] x)=q3
  cases p1 <;> cases p2 <;> cases p3 <;> cases q1 <;> cases q2 <;> cases q3 <;> rfl
theorem pathBad_slash {l:List UInt8} (h:l.length+1≤1000):pathBad (47::l)=if (!(inR 33 126 l)||Lib.containsAny l [63,35])=true then 3 else 0:=by
 unfold pathBad
 rw [if_neg (by simp;omega),if_neg (by simp [Lib.hasPrefix,List.isPrefixOf])]
 have e1:inR 33 126 (47::l)=inR 33 126 l:=by unfold inR;rw [List.all_cons];rfl
 have e2:Lib.containsAny (47::l) [63,35]=Lib.containsAny l [63,35]:=by rw [containsAny_any,containsAny_any,List.any_cons];rfl
 rw [e1,e2]
 cases inR 33 126 l <;> cases Lib.containsAny l [63,35] <;> rfl
theorem slash_list (s:ByteArray):((⟨#[47]⟩:ByteArray)++s).data.toList=47::s.data.toList:=by simp [ByteArray.data_append]
def wordsPart:Option (List UInt8)→Int×PartD
 | none=>(9,⟨0,⟨#[]⟩⟩)
 | some n=>if dotsL n then(5,⟨0,⟨#[]⟩⟩) else(0,⟨1,⟨n.toArray⟩⟩)
theorem partOf_words {x:ByteArray} (h:Lib.hasPrefix x.data.toList [123]=false) (before:List PartD) (last:Bool):
  partOf x before last=if x.data.toList.any (fun c=>badC c.toNat) then(3,⟨0,⟨#[]⟩⟩) else wordsPart (decL x.data.toList):=by
 unfold partOf wordsPart
 rw [if_neg (by rw [h];decide)]
 cases decL x.data.toList <;> rfl
set_option maxRecDepth 100000 in
set_option maxHeartbeats 8000000 in
theorem route_wordsOf (s:ByteArray) (ps:List PartD) (last:Bool) (w:World) (hs:s.size+1≤1000) (h1:Lib.hasPrefix s.data.toList [123]=false):
  Calls Tryz.prog 130 #[.string s] w (RPt (partOf s ps last) w):=by
 have hP:=partOf_words h1 ps last
 rw [bad_split]at hP
 have hlen:s.data.toList.length=s.size:=rfl
 have hpf:=fun W=>msg_pathFault (⟨#[47]⟩++s) W (by simp only [ByteArray.size_append];show 1+s.size≤_;omega)
 rw [slash_list,pathBad_slash (by omega)]at hpf
 have hadd:¬ (9223372036854775807:Int)<((⟨#[47]⟩:ByteArray).size:Int)+(s.size:Int):=by show ¬ _<(1:Int)+_;omega
 have hadd2:¬ 9223372036854775807<(⟨#[47]⟩:ByteArray).size+s.size:=by show ¬ _<1+_;omega
 have hb0:=Blk.new w 78 #[.int .i64 0,.string ⟨#[]⟩]
 have hm0:New w (w.alloc (.cells #[.int .i64 0,.string ⟨#[]⟩] 78)):=(Mod.refl _ _).alloc _
 have hdc:=fun W=>msg_decodedW s W (by omega)
 go_enter Tryz.func130,Tryz.ntmps130
 go_upto_region 1 with(fail)
 generalize w.alloc (.cells #[.int .i64 0,.string ⟨#[]⟩] 78)=w1 at *
 generalize hre:w.heap.size=r at *
 have HR:=hId hb0
 have HM:Hid (New w w1):=hId hm0
 have HRE:=hId hre
 have hpf:=hpf w1
 have HDC:=hId hdc
 clear hb0 hm0 hre hdc
 cases hq:(!(inR 33 126 s.data.toList)||Lib.containsAny s.data.toList [63,35]) <;> rw [hq]at hpf hP
 ·rw [if_neg (by decide)]at hpf
  have hir:inR 33 126 s.data.toList=true:=by
   cases h:inR 33 126 s.data.toList
   ·rw [h]at hq;simp at hq
   ·rfl
  have hca:=fun W=>Tryz.strings_ContainsAny_laid s ⟨#[123,125]⟩ W (by omega) (by decide) (inR_ascii hir) (asciiAll (by decide))
  rw [show (⟨#[123,125]⟩:ByteArray).data.toList= [123,125] from rfl]at hca
  have HCA:=hId hca
  clear hca hir hq
  rw [Bool.false_or]at hP
  cases hq2:Lib.containsAny s.data.toList [123,125] <;> rw [hq2]at hP
  ·rw [if_neg (by decide)]at hP
   go_upto_region 3 with(first |(refine hpf.mono ?_;clear hpf;rintro e w2 ⟨rfl,hm2⟩;have hca:=HCA.out w2;rw [hq2]at hca) |(refine hca.mono ?_;clear hca;rintro e w3 ⟨rfl,hm3⟩))
   have HR1:=hId (HR.out.new2 hm2)
   have HM1:=hId (HM.out.trans hm2)
   clear HR HM
   have HR:=HR1
   have HM:=HM1
   clear HR1 HM1
   have HR1:=hId (HR.out.new2 (Mod.of_below hm3))
   have HM1:=hId (HM.out.trans (Mod.of_below hm3))
   clear HR HM
   have HR:=HR1
   have HM:=HM1
   clear HR1 HM1
   clear hm2 hm3 hq2
   have hdc:=HDC.out w3
   cases hd:decL s.data.toList with
   | none=>
    rw [decV_none hd]at hdc
    rw [hd]at hP
    have HQ:Hid (partOf s ps last=(9,⟨0,⟨#[]⟩⟩)):=hId hP
    clear hP hd
    go_upto_region 5 with(first |(refine hdc.mono ?_;clear hdc;rintro e w4 ⟨rfl,hm4⟩))
    have HR1:=hId (HR.out.new2 hm4)
    have HM1:=hId (HM.out.trans hm4)
    clear HR HM
    have HR:=HR1
    have HM:=HM1
    clear HR1 HM1
    clear hm4
    have d0:=HR.out.cell 0
    have d1:=HR.out.cell 1
    have f0:=HR.out.frozen 0
    have f1:=HR.out.frozen 1
    have dl:=HR.out.lt
    simp only [lqt,lqz,lqs]at d0 d1
    go_wp2_with fail
    refine bodyPost_ret (v:=.tuple #[PartD.val ⟨0,⟨#[]⟩⟩,.int .i64 9]) (by simp [results,Tryz.results130,go_sem,d0,d1,f0,f1,PartD.val]) rfl ⟨by rw [HQ.out] <;> rfl,?_⟩
    exact(HM.out.setCell (p:=⟨r,0,none⟩) (.inr (Nat.le_of_eq HRE.out)) _).setCell (p:=⟨r,1,none⟩) (.inr (Nat.le_of_eq HRE.out)) _
   | some n=>
    rw [decV_some hd]at hdc
    rw [hd]at hP
    have hdt:=fun W=>route_isDots ⟨n.toArray⟩ W
    rw [show (⟨n.toArray⟩:ByteArray).data.toList=n from rfl]at hdt
    generalize hN:(⟨n.toArray⟩:ByteArray)=N at *
    unfold wordsPart at hP
    simp only at hP
    rw [hN]at hP
    clear hd
    have HDT:=hId hdt
    clear hdt
    go_upto_region 6 with(first |(refine hdc.mono ?_;clear hdc;rintro e w4 ⟨rfl,hm4⟩))
    have HR1:=hId (HR.out.new2 hm4)
    have HM1:=hId (HM.out.trans hm4)
    clear HR HM
    have HR:=HR1
    have HM:=HM1
    clear HR1 HM1
    clear hm4
    have hdt:=HDT.out w4
    cases hq3:dotsL n <;> rw [hq3]at hdt hP
    ·have HQ:Hid (partOf s ps last=(0,⟨1,N⟩)):=hId hP
     clear hP hq3
     go_upto_region 8 with(first |(refine hdt.mono ?_;clear hdt;rintro e w5 ⟨rfl,rfl⟩))
     have d0:=HR.out.cell 0
     have d1:=HR.out.cell 1
     have f0:=HR.out.frozen 0
     have f1:=HR.out.frozen 1
     have dl:=HR.out.lt
     simp only [lqt,lqz,lqs]at d0 d1
     go_wp2_with fail
     refine bodyPost_ret (v:=.tuple #[PartD.val ⟨1,N⟩,.int .i64 0]) (by simp [results,Tryz.results130,go_sem,d0,d1,f0,f1,PartD.val]) rfl ⟨by rw [HQ.out] <;> rfl,?_⟩
     exact(HM.out.setCell (p:=⟨r,0,none⟩) (.inr (Nat.le_of_eq HRE.out)) _).setCell (p:=⟨r,1,none⟩) (.inr (Nat.le_of_eq HRE.out)) _
    ·have HQ:Hid (partOf s ps last=(5,⟨0,⟨#[]⟩⟩)):=hId hP
     clear hP hq3
     go_upto_region 7 with(first |(refine hdt.mono ?_;clear hdt;rintro e w5 ⟨rfl,rfl⟩))
     have d0:=HR.out.cell 0
     have d1:=HR.out.cell 1
     have f0:=HR.out.frozen 0
     have f1:=HR.out.frozen 1
     have dl:=HR.out.lt
     simp only [lqt,lqz,lqs]at d0 d1
     go_wp2_with fail
     refine bodyPost_ret (v:=.tuple #[PartD.val ⟨0,⟨#[]⟩⟩,.int .i64 5]) (by simp [results,Tryz.results130,go_sem,d0,d1,f0,f1,PartD.val]) rfl ⟨by rw [HQ.out] <;> rfl,?_⟩
     exact(HM.out.setCell (p:=⟨r,0,none⟩) (.inr (Nat.le_of_eq HRE.out)) _).setCell (p:=⟨r,1,none⟩) (.inr (Nat.le_of_eq HRE.out)) _
  ·have HQ:Hid (partOf s ps last=(3,⟨0,⟨#[]⟩⟩)):=hId hP
   clear hP
   go_upto_region 2 with(first |(refine hpf.mono ?_;clear hpf;rintro e w2 ⟨rfl,hm2⟩;have hca:=HCA.out w2;rw [hq2]at hca) |(refine hca.mono ?_;clear hca;rintro e w3 ⟨rfl,hm3⟩))
   have HR1:=hId (HR.out.new2 hm2)
   have HM1:=hId (HM.out.trans hm2)
   clear HR HM
   have HR:=HR1
   have HM:=HM1
   clear HR1 HM1
   have HR1:=hId (HR.out.new2 (Mod.of_below hm3))
   have HM1:=hId (HM.out.trans (Mod.of_below hm3))
   clear HR HM
   have HR:=HR1
   have HM:=HM1
   clear HR1 HM1
   clear hm2 hm3 hq2
   have d0:=HR.out.cell 0
   have d1:=HR.out.cell 1
   have f0:=HR.out.frozen 0
   have f1:=HR.out.frozen 1
   have dl:=HR.out.lt
   simp only [lqt,lqz,lqs]at d0 d1
   go_wp2_with fail
   refine bodyPost_ret (v:=.tuple #[PartD.val ⟨0,⟨#[]⟩⟩,.int .i64 3]) (by simp [results,Tryz.results130,go_sem,d0,d1,f0,f1,PartD.val]) rfl ⟨by rw [HQ.out] <;> rfl,?_⟩
   exact(HM.out.setCell (p:=⟨r,0,none⟩) (.inr (Nat.le_of_eq HRE.out)) _).setCell (p:=⟨r,1,none⟩) (.inr (Nat.le_of_eq HRE.out)) _
 ·have HQ:Hid (partOf s ps last=(3,⟨0,⟨#[]⟩⟩)):=hId hP
  rw [if_pos rfl]at hpf
  clear hP hq
  go_upto_region 2 with(first |(refine hpf.mono ?_;clear hpf;rintro e w2 ⟨rfl,hm2⟩))
  have HR1:=hId (HR.out.new2 hm2)
  have HM1:=hId (HM.out.trans hm2)
  clear HR HM
  have HR:=HR1
  have HM:=HM1
  clear HR1 HM1
  clear hm2
  have d0:=HR.out.cell 0
  have d1:=HR.out.cell 1
  have f0:=HR.out.frozen 0
  have f1:=HR.out.frozen 1
  have dl:=HR.out.lt
  simp only [lqt,lqz,lqs]at d0 d1
  go_wp2_with fail
  refine bodyPost_ret (v:=.tuple #[PartD.val ⟨0,⟨#[]⟩⟩,.int .i64 3]) (by simp [results,Tryz.results130,go_sem,d0,d1,f0,f1,PartD.val]) rfl ⟨by rw [HQ.out] <;> rfl,?_⟩
  exact(HM.out.setCell (p:=⟨r,0,none⟩) (.inr (Nat.le_of_eq HRE.out)) _).setCell (p:=⟨r,1,none⟩) (.inr (Nat.le_of_eq HRE.out)) _
/-- a stream at block b: its list is read-only memory below b; it has been asked at most k times -/
def SInv (b:Nat) (w:World) (k:Nat):Prop:=
 ∃(A:Option Addr) (n c:Nat) (q:Nat) (z:Nat→Int),Blk w b 25 #[.slice A n c,.int .i64 (q:Int)]∧q≤k∧n≤maxLen∧
  (0<n→∃ g o,A=some ⟨g,o,none⟩∧g<b∧∀ i,i<n→w.cell? ⟨g,o+i,none⟩=some (.int .i64 (z i))∧-9223372036854775808≤z i∧z i≤9223372036854775807)
theorem SInv.lt {b k:Nat} {w:World} (h:SInv b w k):b<w.heap.size:=by
 obtain⟨A,n,c,q,z,hb,_⟩:=h;exact hb.lt
theorem SInv.more {b k k':Nat} {w:World} (h:SInv b w k) (hk:k≤k'):SInv b w k':=by
 obtain⟨A,n,c,q,z,hb,hq,hr⟩:=h;exact⟨A,n,c,q,z,hb,by omega,hr⟩
theorem SInv.mod {S:Nat→Prop} {b k:Nat} {w w':World} (h:SInv b w k) (hm:Mod S w w') (hs:∀ i,i≤b→¬ S i):SInv b w' k:=by
 obtain⟨A,n,c,q,z,hb,hq,hn,hr⟩:=h
 have hlt:=hb.lt
 refine⟨A,n,c,q,z,hb.mod hm (hs b (Nat.le_refl _)),hq,hn,fun h0=>?_⟩
 obtain⟨g,o,ha,hg,hc⟩:=hr h0
 refine⟨g,o,ha,hg,fun i hi=>?_⟩
 have:=hm.cell (p:=⟨g,o+i,none⟩) (by show g<_;omega) (hs g (by omega))
 exact⟨this.trans (hc i hi).1,(hc i hi).2⟩
def I64 (x:Int):Prop:=-9223372036854775808≤x∧x≤9223372036854775807
theorem wrap64_I64 (x:Int):I64 (wrap64 x):=by unfold I64 wrap64;omega
/-- an integer handed back, and what is said of it; w' besides -/
def RInt (Q:Int→World→Prop) (e:Ending) (w':World):Prop:=∃ m:Int,e= .returned (.int .i64 m)∧Q m w'
theorem below_any (x n:Int) (w:World) (hn:1≤n) (hx:I64 x) (hn2:n≤9223372036854775807):
  Calls Tryz.prog 58 #[.int .i64 x,.int .i64 n] w (RInt fun m w'=>0≤m∧m<n∧w=w'):=by
 have h1:¬ n<1:=by omega
 obtain⟨hx1,hx2⟩:=hx
 have h3:=Int.tmod_lt_of_pos x (b:=n) (by omega)
 have h4:=Int.lt_tmod_of_pos x (b:=n) (by omega)
 generalize hy:x.tmod n=y at *
 go_enter Tryz.func58,Tryz.ntmps58
 go_wp2
 all_goals go_ret
 ·exact⟨_,rfl,by omega,by omega,rfl⟩
 ·exact⟨_,rfl,by omega,by omega,rfl⟩
/-- what a function of the stream does to the world: only the stream's block turns, it has been asked at most k times in all -/
structure SStep (b:Nat) (w w':World) (k:Nat):Prop where
 lt:b<w.heap.size
 only:Only b w w'
 inv:SInv b w' k
theorem SStep.refl {b k:Nat} {w:World} (h:SInv b w k):SStep b w w k:=⟨h.lt,Mod.refl _ _,h⟩
theorem SStep.trans {b k k':Nat} {w w' w'':World} (h:SStep b w w' k) (h':SStep b w' w'' k'):SStep b w w'' k':=⟨h.lt,h.only.trans h'.only,h'.inv⟩
theorem SStep.new {b k:Nat} {w w' w'':World} (h:SStep b w w' k) (h':New w' w''):SStep b w w'' k:=
 ⟨h.lt,h.only.step h' (fun _ _ x=>x.elim),h.inv.mod h' (fun _ _ x=>x)⟩
theorem SStep.alloc {b k:Nat} {w w':World} (h:SStep b w w' k) (o:Obj):SStep b w (w'.alloc o) k:=h.new ((Mod.refl _ _).alloc o)
theorem SStep.drew {b k:Nat} {w w':World} (h:SStep b w w' k):SStep b w w'.drew k:=h.new (Mod.refl _ _).drew
theorem SStep.drewN {b k:Nat} {w w':World} (h:SStep b w w' k) (n:Nat):SStep b w (w'.drewN n) k:=h.new ((Mod.refl _ _).drewN n)
theorem SStep.more {b k k':Nat} {w w':World} (h:SStep b w w' k) (hk:k≤k'):SStep b w w' k':=⟨h.lt,h.only,h.inv.more hk⟩
theorem SStep.set {b k:Nat} {w w':World} (h:SStep b w w' k) {p:Addr} (hp:w.heap.size≤p.block) (u:Value):SStep b w (w'.setCell p u) k:=
 ⟨h.lt,h.only.setCell (.inr hp) u,h.inv.mod (S:=fun i=>i=p.block) ((Mod.refl (fun i=>i=p.block) _).setCell (.inl rfl) u) (fun i hi e=>by have:=h.lt;omega)⟩
theorem SStep.grown {b k:Nat} {w w' w'':World} {row:Option Nat} (h:SStep b w w' k) (hg:w'.grownBy w'' row) (hr:∀ i,row=some i→w.heap.size≤i):SStep b w w'' k:=
 ⟨h.lt,h.only.grown hg (fun i e=>.inr (hr i e)),h.inv.mod (S:=fun i=>row=some i) ((Mod.refl (fun i=>row=some i) _).grown hg (fun i e=>.inl e)) (fun i hi e=>by have:=h.lt;have:=hr i e;omega)⟩
set_option maxHeartbeats 400000 in
theorem next_any (b k:Nat) (n:Int) (w:World) (hs:SInv b w k) (hk:k<4611686018427387904) (hn:1≤n) (hn2:n≤9223372036854775807):
  Calls Tryz.prog 19 #[.pointer (some ⟨b,0,none⟩),.int .i64 n] w (RInt fun m w'=>0≤m∧m<n∧SStep b w w' (k+1)):=by
 obtain⟨A,l,c,q,z,hb,hq,hl,hr⟩:=hs
 unfold maxLen at hl
 have c0:=hb.cell 0
 have c1:=hb.cell 1
 have f1:=hb.frozen 1
 simp at c0 c1
 have hfin:∀ q':Nat,q'=q+1→SStep b w (w.setCell ⟨b,1,none⟩ (.int .i64 (q':Int))) (k+1):=by
  rintro q' rfl
  refine⟨hb.lt,(Mod.refl (fun k=>k=b) w).setCell (.inl rfl) _,A,l,c,q+1,z,by simpa using hb.set 1 _,by omega,hl,fun h0=>?_⟩
  obtain⟨g,o,ha,hg,hc⟩:=hr h0
  refine⟨g,o,ha,hg,fun i hi=>⟨?_,(hc i hi).2⟩⟩
  rw [← (hc i hi).1]
  exact World.cell?_setCell_other w _ _ _ (by intro e;injection e;omega)
 have HF:=hId hfin
 clear hfin
 by_cases h0:l=0
 ·subst h0
  clear hr hb
  go_enter Tryz.func19,Tryz.ntmps19
  go_wp2_with fail
  refine(below_any _ _ _ hn ?_ hn2).mono ?_
  ·exact wrap64_I64 _
  ·rintro e w' ⟨m,rfl,h1,h2,rfl⟩
   go_wp2_with fail
   go_ret
   exact⟨_,rfl,h1,h2,HF.out _ rfl⟩
 ·obtain⟨g,o,rfl,hg,hc⟩:=hr (by omega)
  have hne:g≠b:=by omega
  have hd1:=Int.emod_nonneg (q:Int) (b:=(l:Int)) (by omega)
  have hd2:=Int.emod_lt_of_pos (q:Int) (b:=(l:Int)) (by omega)
  have hcx:=hc (q % l) (Nat.mod_lt _ (by omega))
  have hl0:(0:Int)<l:=by omega
  have hl1:(l == 0)=false:=by simpa using h0
  have hc1:w.cell? ⟨g,o+q % l,none⟩=some (.int .i64 (z (q % l))):=hcx.1
  have hz:I64 (z (q % l)):=hcx.2
  clear hcx hc hb
  go_enter Tryz.func19,Tryz.ntmps19
  go_wp2_with fail
  go_quiet (fail)
  go_wp2_with fail
  go_quiet (fail)
  go_wp2_with fail
  refine(below_any _ _ _ (by omega) hz (by omega)).mono ?_
  rintro e w' ⟨m,rfl,h1,h2,rfl⟩
  go_wp2_with fail
  refine(below_any _ _ _ hn ?_ hn2).mono ?_
  ·exact wrap64_I64 _
  ·rintro e w' ⟨m2,rfl,h3,h4,rfl⟩
   go_wp2_with fail
   go_ret
   exact⟨_,rfl,h3,h4,(HF.out _ rfl).drewN _⟩
def RBool (Q:Bool→World→Prop) (e:Ending) (w':World):Prop:=∃ m:Bool,e= .returned (.bool m)∧Q m w'
def RStr (Q:ByteArray→World→Prop) (e:Ending) (w':World):Prop:=∃ m:ByteArray,e= .returned (.string m)∧Q m w'
set_option maxHeartbeats 400000 in
theorem flip_any (b k:Nat) (n:Int) (w:World) (hs:SInv b w k) (hk:k<4611686018427387904) (hn:1≤n) (hn2:n≤9223372036854775807):
  Calls Tryz.prog 18 #[.pointer (some ⟨b,0,none⟩),.int .i64 n] w (RBool fun _ w'=>SStep b w w' (k+1)):=by
 go_enter Tryz.func18,Tryz.ntmps18
 go_wp2_with fail
 refine(next_any b k n _ hs hk hn hn2).mono ?_
 rintro e w' ⟨m,rfl,h1,h2,h3⟩
 go_wp2_with fail
 go_ret
 exact⟨_,rfl,h3⟩
set_option maxHeartbeats 400000 in
theorem range_any (b k:Nat) (lo hi:Int) (w:World) (hs:SInv b w k) (hk:k<4611686018427387904) (h1:lo≤hi) (h2:-2305843009213693952≤lo) (h3:hi<2305843009213693952):
  Calls Tryz.prog 23 #[.pointer (some ⟨b,0,none⟩),.int .i64 lo,.int .i64 hi] w (RInt fun m w'=>lo≤m∧m≤hi∧SStep b w w' (k+1)):=by
 go_enter Tryz.func23,Tryz.ntmps23
 go_wp2_with fail
 refine(next_any b k _ _ hs hk (by omega) (by omega)).mono ?_
 rintro e w' ⟨m,rfl,h4,h5,h6⟩
 go_wp2_with fail
 go_ret
 exact⟨_,rfl,by omega,by omega,h6⟩
set_option maxHeartbeats 400000 in
theorem pick_any (xs:List Int) (b k g n:Nat) (w:World) (hs:SInv b w k) (hk:k<4611686018427387904) (hx:Blk w g 3 (xs.map (Value.int .i64)).toArray) (hn:xs.length=n) (hn0:0<n) (hn1:n<1000):
  Calls Tryz.prog 66 #[.pointer (some ⟨b,0,none⟩),.slice (some ⟨g,0,none⟩) n n] w (RInt fun m w'=>m∈xs∧SStep b w w' (k+1)):=by
 have hgb:g≠b:=by
  obtain⟨A,l,c,q,z,hb,_⟩:=hs
  exact hx.ne hb (by decide)
 go_enter Tryz.func66,Tryz.ntmps66
 go_wp2_with fail
 refine(next_any b k _ _ hs hk (by omega) (by omega)).mono ?_
 rintro e w' ⟨m,rfl,h4,h5,h6⟩
 obtain⟨m,rfl⟩:=Int.eq_ofNat_of_zero_le h4
 have hc:=(hx.mod h6.only hgb).cell m
 have hm:m<xs.length:=by omega
 rw [show (xs.map (Value.int .i64)).toArray[m]? =some (.int .i64 xs[m])by simp [hm]]at hc
 go_wp2_with fail
 go_ret
 exact⟨_,rfl,List.getElem_mem hm,h6⟩
set_option maxHeartbeats 400000 in
theorem some_any (xs:List ByteArray) (b k g n:Nat) (w:World) (hs:SInv b w k) (hk:k<4611686018427387904) (hx:Blk w g 9 (xs.map Value.string).toArray) (hn:xs.length=n) (hn0:0<n) (hn1:n<1000):
  Calls Tryz.prog 6 #[.pointer (some ⟨b,0,none⟩),.slice (some ⟨g,0,none⟩) n n] w (RStr fun m w'=>m∈xs∧SStep b w w' (k+1)):=by
 have hgb:g≠b:=by
  obtain⟨A,l,c,q,z,hb,_⟩:=hs
  exact hx.ne hb (by decide)
 go_enter Tryz.func6,Tryz.ntmps6
 go_wp2_with fail
 refine(next_any b k _ _ hs hk (by omega) (by omega)).mono ?_
 rintro e w' ⟨m,rfl,h4,h5,h6⟩
 obtain⟨m,rfl⟩:=Int.eq_ofNat_of_zero_le h4
 have hc:=(hx.mod h6.only hgb).cell m
 have hm:m<xs.length:=by omega
 rw [show (xs.map Value.string).toArray[m]? =some (.string xs[m])by simp [hm]]at hc
 go_wp2_with fail
 go_ret
 exact⟨_,rfl,List.getElem_mem hm,h6⟩
set_option maxHeartbeats 400000 in
theorem odd_any (b k:Nat) (lo hi:Int) (w:World) (hs:SInv b w k) (hk:k<4611686018427380000) (h1:lo≤hi) (h2:-1000000000000000≤lo) (h3:hi<1000000000000000):
  Calls Tryz.prog 60 #[.pointer (some ⟨b,0,none⟩),.int .i64 lo,.int .i64 hi] w (RInt fun m w'=>-1000000000000001≤m∧m≤1000000000000001∧SStep b w w' (k+2)):=by
 go_enter Tryz.func60,Tryz.ntmps60
 go_wp2_with fail
 refine(flip_any b k _ _ hs (by omega) (by omega) (by omega)).mono ?_
 rintro e w1 ⟨m,rfl,h4⟩
 cases m
 ·go_wp2_with fail
  refine(range_any b (k+1) _ _ _ h4.inv (by omega) (by omega) (by omega) (by omega)).mono ?_
  rintro e w2 ⟨m,rfl,h5,h6,h7⟩
  go_wp2_with fail
  go_ret
  exact⟨_,rfl,by omega,by omega,h4.trans h7⟩
 ·go_wp2_with fail
  refine(pick_any [lo -1,hi+1,lo,hi,-1099511627776,1099511627776] b (k+1) _ 6 _ (h4.alloc _).inv (by omega) (Blk.new _ _ _) rfl (by omega) (by omega)).mono ?_
  rintro e w2 ⟨m,rfl,h5,h6⟩
  go_wp2_with fail
  go_ret
  simp at h5
  exact⟨_,rfl,by omega,by omega,(h4.alloc _).trans h6⟩
/-- strconv's table of powers of ten lies as its initialiser lays it -/
def Pow10 (w : World) : Prop := Lib.TabIs Tryz.prog w "internal/strconv.uint64pow10" .u64 Lib.pow10Tab
theorem Pow10.new {w w':World} (h:Pow10 w) (hm:New w w'):Pow10 w':=by
 unfold Pow10 Lib.TabIs World.var? at *
 cases hg : Tryz.prog.globalNamed "internal/strconv.uint64pow10" with
 | none=>rw [hg]at h;simp at h
 | some g=>
  rw [hg]at h
  simp only [Option.bind_some]at h ⊢
  have hlt:g<w.heap.size:=by
   rcases Nat.lt_or_ge g w.heap.size with hlt | hge
   ·exact hlt
   ·rw [Array.getElem?_eq_none hge]at h;simp at h
  rw [hm.block g hlt (fun e=>e)]
  exact h
theorem New.grow (w:World) (k:Nat) (os:Array Obj):New w (Sort.grow (w.drewN k) os):=
 ⟨rfl,rfl,rfl,by rw [Sort.size_grow];exact Nat.le_add_right _ _,fun i hi _=>Sort.heap_grow_old (w.drewN k) os hi⟩
def itoaB (n:Int):ByteArray:=⟨(Lib.itoa n).toArray⟩
theorem itoa_any (n:Int) (h:I64 n) (w:World) (ht:Pow10 w):Calls Tryz.prog 166 #[.int .i64 n] w fun e w'=>e= .returned (.string (itoaB n))∧New w w':=
 (Tryz.strconv_Itoa n h.1 h.2 w ht).mono (by rintro e w' ⟨rfl,k,os,rfl⟩;exact⟨rfl,New.grow w k os⟩)
/-- a Builder in block b that holds the bytes l, its buffer from B on -/
abbrev Bld (B b:Nat) (l:List UInt8) (w:World):Prop:=Lib.IsBuilder 109 5 B b (Lib.byteCells l) w
theorem Bld.fresh {w:World} {B b:Nat} (hb:Blk w b 109 #[.pointer none,.slice none 0 0]) (hB:B≤b):Bld B b [] w:=
 .inl ⟨hB,.slice none 0 0,hb,World.ownsRow_nil _ _ _ _,by simp [Value.ownBlock]⟩
theorem Bld.new {B b:Nat} {l:List UInt8} {w w':World} (h:Bld B b l w) (hm:New w w'):Bld B b l w':=by
 have key:∀ p,Lib.BuilderAt 109 5 B b p (Lib.byteCells l) w→Lib.BuilderAt 109 5 B b p (Lib.byteCells l) w':=fun p ⟨h1,v,h2,h3,h4⟩=>
  ⟨h1,v,(hm.block b (heap_lt h2) (fun e=>e)).trans h2,h3.kept (hm.grownBy none) (by cases v.ownBlock with | none=>exact .inl rfl | some k=>exact .inr (by simp)),h4⟩
 exact h.imp (key _) (key _)
theorem Bld.lt {B b:Nat} {l:List UInt8} {w:World} (h:Bld B b l w):B≤b∧b<w.heap.size:=by
 rcases h with⟨h1,v,h2,_⟩ |⟨h1,v,h2,_⟩
 ·exact⟨h1,heap_lt h2⟩
 ·exact⟨h1,heap_lt h2⟩
/-- what turns only behind w0's end leaves the table -/
theorem Pow10.mod {S:Nat→Prop} {w0 w w':World} (h0:Pow10 w0) (h:Pow10 w) (hm:Mod S w w') (hS:∀ g,g<w0.heap.size→¬ S g):Pow10 w':=by
 unfold Pow10 Lib.TabIs World.var? at *
 cases hg : Tryz.prog.globalNamed "internal/strconv.uint64pow10" with
 | none=>rw [hg]at h;simp at h
 | some g=>
  rw [hg]at h h0
  simp only [Option.bind_some]at h h0 ⊢
  have l0:g<w0.heap.size:=by
   rcases Nat.lt_or_ge g w0.heap.size with hlt | hge
   ·exact hlt
   ·rw [Array.getElem?_eq_none hge]at h0;simp at h0
  have l1:g<w.heap.size:=by
   rcases Nat.lt_or_ge g w.heap.size with hlt | hge
   ·exact hlt
   ·rw [Array.getElem?_eq_none hge]at h;simp at h
  rw [hm.block g l1 (hS g l0)]
  exact h
abbrev nl:ByteArray:=⟨#[10]⟩
def pieces (t sep:ByteArray):List ByteArray:=Lib.splitB sep 0 (Lib.countB t sep) t
theorem pieces_length {t sep:ByteArray} (h:1≤sep.size):(pieces t sep).length=Lib.countB t sep+1:=Lib.splitB_all sep h 0 _ t rfl
theorem pieces_hit {t sep:ByteArray} {i:Nat} (h1:1≤sep.size) (h:Lib.indexB t sep=i):pieces t sep=t.extract 0 i::pieces (t.extract (i+sep.size) t.size) sep:=by
 unfold pieces
 rw [Lib.countB_hit t sep i h1 h,Nat.add_comm 1,Lib.splitB_hit sep 0 _ t i h]
 rfl
theorem pieces_miss {t sep:ByteArray} (h:Lib.indexB t sep= -1):pieces t sep= [t]:=by
 unfold pieces
 rw [Lib.splitB_miss sep 0 _ t h]
theorem pieces_ne {t sep:ByteArray} (h:1≤sep.size):pieces t sep≠[]:=fun e=>by
 have:=pieces_length (t:=t) h
 rw [e]at this
 simp at this
/-- no word is longer than its line -/
theorem splitB_le (sep:ByteArray):∀(k:Nat) (s:ByteArray),∀ x∈Lib.splitB sep 0 k s,x.size≤s.size
 | 0,s,x,hx=>by
  simp only [Lib.splitB,List.mem_singleton]at hx
  rw [hx];exact Nat.le_refl _
 | k+1,s,x,hx=>by
  rcases Lib.indexB_cases s sep with h |⟨i,h,hi⟩
  ·rw [Lib.splitB_miss sep 0 _ s h]at hx
   simp only [List.mem_singleton]at hx
   rw [hx];exact Nat.le_refl _
  ·rw [Lib.splitB_hit sep 0 k s i h]at hx
   rcases List.mem_cons.1 hx with rfl | hx
   ·simp only [ByteArray.size_extract];omega
   ·have:=splitB_le sep k _ x hx
    simp only [ByteArray.size_extract]at this
    omega
theorem pieces_le {t sep:ByteArray} {x:ByteArray} (hx:x∈pieces t sep):x.size≤t.size:=splitB_le sep _ t x hx
/-- the library's variable on searching is an int -/
def MaxLn (w:World):Prop:=∃ m,w.cell? ⟨0,0,none⟩=some (.int .i64 m)
theorem MaxLn.new {w w':World} (h:MaxLn w) (hm:New w w'):MaxLn w':=by
 obtain⟨m,hc⟩:=h
 have hlt:0<w.heap.size:=by
  rcases Nat.lt_or_ge 0 w.heap.size with hlt | hge
  ·exact hlt
  ·simp [World.cell?,Array.getElem?_eq_none hge]at hc
 exact⟨m,(hm.cell (p:=⟨0,0,none⟩) hlt (fun e=>e)).trans hc⟩
theorem str_nil (z:ByteArray):(z.toList == [])=decide (z=⟨#[]⟩):=by
 rw [Bool.eq_iff_iff,ByteArray.toList_eq]
 simp only [beq_iff_eq,decide_eq_true_eq]
 constructor
 ·intro h
  exact ByteArray.ext (Array.toList_inj.mp h)
 ·rintro rfl
  rfl
def strCs (ws:List ByteArray):Array Value:=(ws.map Value.string).toArray
theorem strs_at {w:World} {g:Nat} {ws:List ByteArray} (h:Blk w g 9 (strCs ws)) (j:Nat) (hj:j<ws.length):w.cell? ⟨g,j,none⟩=some (.string (ws.getD j ByteArray.empty)):=by
 rw [h.cell j]
 unfold strCs
 simp [List.getD_eq_getElem?_getD,hj]
theorem split_any (t:ByteArray) (c:UInt8) (w:World) (hs:t.size≤1000000) (hx:MaxLn w):
  Calls Tryz.prog 85 #[.string t,.string ⟨#[c]⟩] w fun e w'=>e= .returned (.slice (some ⟨w.heap.size,0,none⟩) (pieces t ⟨#[c]⟩).length (pieces t ⟨#[c]⟩).length)∧w'=w.alloc (.cells (strCs (pieces t ⟨#[c]⟩)) 9):=by
 obtain⟨m,hm⟩:=hx
 rw [pieces_length (show 1≤(⟨#[c]⟩:ByteArray).size from Nat.le_refl _)]
 exact Tryz.strings_Split t ⟨#[c]⟩ m w (by omega) hm (Nat.le_refl _)
theorem MaxLn.mod {S:Nat→Prop} {w0 w w':World} (h0:MaxLn w0) (h:MaxLn w) (hm:Mod S w w') (hS:∀ g,g<w0.heap.size→¬ S g):MaxLn w':=by
 have key:∀ W,MaxLn W→0<W.heap.size:=fun W ⟨m,hc⟩=>by
  rcases Nat.lt_or_ge 0 W.heap.size with hlt | hge
  ·exact hlt
  ·simp [World.cell?,Array.getElem?_eq_none hge]at hc
 obtain⟨m,hc⟩:=h
 exact⟨m,(hm.cell (p:=⟨0,0,none⟩) (key w ⟨m,hc⟩) (hS _ (key w0 h0))).trans hc⟩
theorem bytes_new (w:World) (e:TypeId) (t:ByteArray):New w (Lib.bytesWorld w e t):=Mod.of_below (Lib.bytesWorld_below w e t)
end Go.Proofs.YtnlloaimplgjnaaGreatDoor
