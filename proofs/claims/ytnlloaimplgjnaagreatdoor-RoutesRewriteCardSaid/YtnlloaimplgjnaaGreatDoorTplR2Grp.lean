/- Several texts in one. (1) The reference reads a segment of a template. Conditions: a segment of modest size. (2) The reference reads a segment of a template that is words. Conditions: a segment of modest size. -/
import Derived.Test.YtnlloaimplgjnaaGreatDoorNrm0Grp
import Derived.Test.YtnlloaimplgjnaaGreatDoorTpl3Grp
namespace Go.Proofs.YtnlloaimplgjnaaGreatDoor
open Go.RowKit
set_option linter.unusedVariables false
set_option linter.unusedSimpArgs false
theorem partOf_param {x:ByteArray} (h:Lib.hasPrefix x.data.toList [123]=true) (before:List PartD) (last:Bool):partOf x before last=
  if Lib.hasSuffix (x.data.toList.drop 1) [125]=false then(9,⟨0,⟨#[]⟩⟩)
  else if isWord (Lib.trimSuffix (Lib.trimSuffix (x.data.toList.drop 1) [125]) [42])=false then(5,⟨0,⟨#[]⟩⟩)
  else if hasP before ⟨(Lib.trimSuffix (Lib.trimSuffix (x.data.toList.drop 1) [125]) [42]).toArray⟩=true then(6,⟨0,⟨#[]⟩⟩)
  else if (Lib.hasSuffix (Lib.trimSuffix (x.data.toList.drop 1) [125]) [42]&& !last)=true then(7,⟨0,⟨#[]⟩⟩)
  else(0,⟨if Lib.hasSuffix (Lib.trimSuffix (x.data.toList.drop 1) [125]) [42] then 3 else 2,⟨(Lib.trimSuffix (Lib.trimSuffix (x.data.toList.drop 1) [125]) [42]).toArray⟩⟩):=by
 have hs:Lib.hasSuffix x.data.toList [125]=Lib.hasSuffix (x.data.toList.drop 1) [125]:=by
  generalize x.data.toList=l at *
  match l,h with
  | [],h=>exact absurd h (by decide)
  | a::y,h=>
   have ha:a=123:=by
    simp only [Lib.hasPrefix,List.isPrefixOf,Bool.and_true,beq_iff_eq]at h
    exact h.symm
   subst ha
   exact suffix_cons 123 125 y (by decide)
 unfold partOf
 rw [if_pos h,hs]
 simp only [Bool.not_eq_true']
/-- the order of parts is asked last -/
theorem partOf_last (x:ByteArray) (before:List PartD) (last:Bool):
  partOf x before last=if (partOf x before true).1=0∧(partOf x before true).2.kind=3∧last=false then(7,⟨0,⟨#[]⟩⟩) else partOf x before true:=by
 cases last
 ·cases h:Lib.hasPrefix x.data.toList [123]
  ·rw [partOf_words h,partOf_words h]
   split
   ·rfl
   ·unfold wordsPart
    split
    ·rfl
    ·split <;> rfl
  ·rw [partOf_param h,partOf_param h]
   split
   ·rfl
   ·split
    ·rfl
    ·split
     ·rfl
     ·cases Lib.hasSuffix (Lib.trimSuffix (x.data.toList.drop 1) [125]) [42] <;> rfl
 ·rw [if_neg (by simp)]
set_option maxRecDepth 100000 in
set_option maxHeartbeats 4000000 in
theorem ref_partOf_param (s:ByteArray) (A:Option Addr) (n c:Nat) (ps:List PartD) (w:World) (hs:s.size≤900000) (h1:Lib.hasPrefix s.data.toList [123]=true) (hps:PSl w A n ps) (hn:n≤100000):
  Calls Tryz.prog 101 #[.string s,.slice A n c] w (RPt (partOf s ps true) w):=by
 have hP:=partOf_param h1 ps true
 have hpx:=fun W=>Tryz.strings_HasPrefix s ⟨#[123]⟩ W
 rw [show (⟨#[123]⟩:ByteArray).data.toList= [123] from rfl,h1]at hpx
 have hpos:1≤s.size:=by
  rcases Nat.eq_zero_or_pos s.size with h | h
  ·have:s.data.toList= []:=List.eq_nil_of_length_eq_zero h
   rw [this]at h1;exact absurd h1 (by decide)
  ·exact h
 have hxl:(s.extract 1 s.size).data.toList=s.data.toList.drop 1:=by
  rw [extract_data,List.take_of_length_le]
  have:s.data.toList.length=s.size:=rfl
  simp only [List.length_drop];omega
 have hcs:=fun W=>Tryz.strings_CutSuffix (s.extract 1 s.size) ⟨#[125]⟩ W (by simp only [ByteArray.size_extract];omega)
 rw [hxl,show(⟨#[125]⟩:ByteArray).data.toList= [125] from rfl]at hcs
 have hyl:(Lib.trimSuffix (s.data.toList.drop 1) [125]).length≤900000:=by
  have h0:s.data.toList.length=s.size:=rfl
  unfold Lib.trimSuffix
  split <;> simp only [List.length_take,List.length_drop] <;> omega
 generalize Lib.hasSuffix (s.data.toList.drop 1) [125]=ended at *
 generalize Lib.trimSuffix (s.data.toList.drop 1) [125]=y at *
 have hb1:(1:Int)≤(s.size:Int):=by omega
 have hb0:=Blk.new w 78 #[.int .i64 0,.string ⟨#[]⟩]
 have hm0:New w (w.alloc (.cells #[.int .i64 0,.string ⟨#[]⟩] 78)):=(Mod.refl _ _).alloc _
 clear h1 hxl
 go_enter Tryz.func101,Tryz.ntmps101
 go_upto_region 1 with(fail)
 generalize w.alloc (.cells #[.int .i64 0,.string ⟨#[]⟩] 78)=w1 at *
 generalize hre:w.heap.size=r at *
 have HR:=hId hb0
 have HM:Hid (New w w1):=hId hm0
 have HRE:=hId hre
 have hpx:=hpx w1
 have hcs:=hcs w1
 have hrl:=hb0.lt
 clear hb0 hm0 hre
 cases ended
 ·have HQ:Hid (partOf s ps true=(9,⟨0,⟨#[]⟩⟩)):=hId hP
  clear hP
  go_upto_region 4 with(first |(refine hpx.mono ?_;clear hpx;rintro e w' ⟨rfl,hw⟩;rw [hw];clear hw) |(refine hcs.mono ?_;clear hcs;rintro e w' ⟨rfl,hw⟩;rw [hw];clear hw))
  have d0:=HR.out.cell 0
  have d1:=HR.out.cell 1
  have f0:=HR.out.frozen 0
  have f1:=HR.out.frozen 1
  have dl:=HR.out.lt
  simp only [lqt,lqz,lqs]at d0 d1
  go_wp2_with fail
  refine bodyPost_ret (v:=.tuple #[PartD.val ⟨0,⟨#[]⟩⟩,.int .i64 9]) (by simp [results,Tryz.results101,go_sem,d0,d1,f0,f1,PartD.val]) rfl ⟨by rw [HQ.out] <;> rfl,?_⟩
  exact(HM.out.setCell (p:=⟨r,0,none⟩) (.inr (Nat.le_of_eq HRE.out)) _).setCell (p:=⟨r,1,none⟩) (.inr (Nat.le_of_eq HRE.out)) _
 ·rw [if_neg (by decide)]at hP
  have hcs2:=fun W=>Tryz.strings_CutSuffix ⟨y.toArray⟩ ⟨#[42]⟩ W (by show(y.toArray).size≤_;simp;omega)
  rw [show (⟨y.toArray⟩:ByteArray).data.toList=y from rfl,show(⟨#[42]⟩:ByteArray).data.toList= [42] from rfl]at hcs2
  have hnl:(Lib.trimSuffix y [42]).length≤y.length:=by
   unfold Lib.trimSuffix
   split
   ·simp
   ·exact Nat.le_refl _
  generalize Lib.trimSuffix y [42]=nm at *
  generalize Lib.hasSuffix y [42]=rst at *
  have hiw:=fun W=>ref_word ⟨nm.toArray⟩ W (by show(nm.toArray).size≤_;simp;omega)
  rw [show (⟨nm.toArray⟩:ByteArray).data.toList=nm from rfl]at hiw
  have hhp:=fun W (h:New w W)=>ref_hasParam A n c ps ⟨nm.toArray⟩ W (hps.new h) hn
  have HHP:=hId hhp
  have HIW:=hId hiw
  have HC2:=hId hcs2
  clear hhp hiw hnl hyl hcs2
  generalize hN:(⟨nm.toArray⟩:ByteArray)=N at *
  generalize (⟨y.toArray⟩:ByteArray)=Y at *
  generalize isWord nm=q1 at *
  generalize hasP ps N=q2 at *
  go_upto_region 6 with(first |(refine hpx.mono ?_;clear hpx;rintro e w' ⟨rfl,hw⟩;rw [hw];clear hw) |(refine hcs.mono ?_;clear hcs;rintro e w' ⟨rfl,hw⟩;rw [hw];clear hw))
  have bP:=Blk.new w1 78 #[.int .i64 2,.string ⟨#[]⟩]
  have mP:New w1 (w1.alloc (.cells #[.int .i64 2,.string ⟨#[]⟩] 78)):=(Mod.refl _ _).alloc _
  have HR1:=hId (HR.out.new2 mP)
  have HM1:Hid (New w _):=hId (HM.out.trans mP)
  clear HR HM mP hpx hcs
  generalize w1.alloc (.cells #[.int .i64 2,.string ⟨#[]⟩] 78)=w2 at *
  generalize w1.heap.size=pb at *
  have HP:=hId bP
  have HR:=HR1
  have HM:=HM1
  clear bP HR1 HM1
  have hrw:w.heap.size≤pb:=by have:=HRE.out;omega
  have HRW:=hId hrw
  have hne:¬ r=pb:=by omega
  have hc2:=HC2.out w2
  have p0:=HP.out.cell 0
  have p1:=HP.out.cell 1
  have fp0:=HP.out.frozen 0
  have fp1:=HP.out.frozen 1
  have pl:=HP.out.lt
  simp only [lqt,lqz,lqs]at p0 p1
  have hP3:=HP.out.set 1 (.string N)
  simp at hP3
  have HP3:=hId hP3
  have hm3:Mod (fun k=>k=pb) w2 (w2.setCell ⟨pb,1,none⟩ (.string N)):=Mod.setCell (S:=fun k=>k=pb) (p:=⟨pb,1,none⟩) (Mod.refl _ _) (.inl rfl) _
  have HR3:=hId (HR.out.mod hm3 hne)
  have HM3:Hid (New w (w2.setCell ⟨pb,1,none⟩ (.string N))):=hId (HM.out.setCell (p:=⟨pb,1,none⟩) (.inr HRW.out) _)
  clear hP3 hm3 HR HM HP hrw
  go_upto_region 8 with(first |(refine hc2.mono ?_;clear hc2;rintro e w' ⟨rfl,hw⟩;rw [hw];clear hw))
  clear p0 p1 fp0 fp1 pl
  generalize w2.setCell ⟨pb,1,none⟩ (.string N)=w3 at *
  have HP:=HP3
  have HR:=HR3
  have HM:=HM3
  clear HP3 HR3 HM3
  cases rst
  ·go_upto_region 10 with fail
   have w4:=w3
   clear w4
   generalize hw34:w3=w4 at *
   clear hw34
   have hiw:=HIW.out w4
   have p0:=HP.out.cell 0
   have p1:=HP.out.cell 1
   have fp0:=HP.out.frozen 0
   have fp1:=HP.out.frozen 1
   have pl:=HP.out.lt
   simp only [lqt,lqz,lqs]at p0 p1
   cases q1
   ·have HQ:Hid (partOf s ps true=(5,⟨0,⟨#[]⟩⟩)):=hId hP
    clear hP
    go_upto_region 11 with(first |(refine hiw.mono ?_;clear hiw;rintro e w5 ⟨rfl,hm5⟩))
    clear p0 p1 fp0 fp1 pl
    have HR1:=hId (HR.out.new2 hm5)
    have HP1:=hId (HP.out.new2 hm5)
    have HM1:Hid (New w _):=hId (HM.out.trans hm5)
    clear HR HM HP
    have HR:=HR1
    have HM:=HM1
    have HP:=HP1
    clear HR1 HM1 HP1
    clear hm5
    have d0:=HR.out.cell 0
    have d1:=HR.out.cell 1
    have f0:=HR.out.frozen 0
    have f1:=HR.out.frozen 1
    have dl:=HR.out.lt
    simp only [lqt,lqz,lqs]at d0 d1
    go_wp2_with fail
    refine bodyPost_ret (v:=.tuple #[PartD.val ⟨0,⟨#[]⟩⟩,.int .i64 5]) (by simp [results,Tryz.results101,go_sem,d0,d1,f0,f1,PartD.val]) rfl ⟨by rw [HQ.out] <;> rfl,?_⟩
    exact(HM.out.setCell (p:=⟨r,0,none⟩) (.inr (Nat.le_of_eq HRE.out)) _).setCell (p:=⟨r,1,none⟩) (.inr (Nat.le_of_eq HRE.out)) _
   ·rw [if_neg (by decide)]at hP
    go_upto_region 12 with(first |(refine hiw.mono ?_;clear hiw;rintro e w5 ⟨rfl,hm5⟩))
    clear p0 p1 fp0 fp1 pl
    have HR1:=hId (HR.out.new2 hm5)
    have HP1:=hId (HP.out.new2 hm5)
    have HM1:Hid (New w _):=hId (HM.out.trans hm5)
    clear HR HM HP
    have HR:=HR1
    have HM:=HM1
    have HP:=HP1
    clear HR1 HM1 HP1
    clear hm5
    have hhp:=HHP.out w5 HM.out
    have p0:=HP.out.cell 0
    have p1:=HP.out.cell 1
    have fp0:=HP.out.frozen 0
    have fp1:=HP.out.frozen 1
    have pl:=HP.out.lt
    simp only [lqt,lqz,lqs]at p0 p1
    cases q2
    ·rw [if_neg (by decide)]at hP
     have HQ:Hid (partOf s ps true=(0,⟨2,N⟩)):=hId hP
     clear hP
     go_upto_region 14 with(first |(refine hhp.mono ?_;clear hhp;rintro e w6 ⟨rfl,hm6⟩))
     clear p0 p1 fp0 fp1 pl
     have HR1:=hId (HR.out.new2 hm6)
     have HP1:=hId (HP.out.new2 hm6)
     have HM1:Hid (New w _):=hId (HM.out.trans hm6)
     clear HR HM HP
     have HR:=HR1
     have HM:=HM1
     have HP:=HP1
     clear HR1 HM1 HP1
     clear hm6
     have p0:=HP.out.cell 0
     have p1:=HP.out.cell 1
     have fp0:=HP.out.frozen 0
     have fp1:=HP.out.frozen 1
     have pl:=HP.out.lt
     simp only [lqt,lqz,lqs]at p0 p1
     have d0:=HR.out.cell 0
     have d1:=HR.out.cell 1
     have f0:=HR.out.frozen 0
     have f1:=HR.out.frozen 1
     have dl:=HR.out.lt
     simp only [lqt,lqz,lqs]at d0 d1
     go_wp2_with fail
     refine bodyPost_ret (v:=.tuple #[PartD.val ⟨2,N⟩,.int .i64 0]) (by simp [results,Tryz.results101,go_sem,d0,d1,f0,f1,PartD.val]) rfl ⟨by rw [HQ.out] <;> rfl,?_⟩
     exact(HM.out.setCell (p:=⟨r,0,none⟩) (.inr (Nat.le_of_eq HRE.out)) _).setCell (p:=⟨r,1,none⟩) (.inr (Nat.le_of_eq HRE.out)) _
    ·have HQ:Hid (partOf s ps true=(6,⟨0,⟨#[]⟩⟩)):=hId hP
     clear hP
     go_upto_region 13 with(first |(refine hhp.mono ?_;clear hhp;rintro e w6 ⟨rfl,hm6⟩))
     clear p0 p1 fp0 fp1 pl
     have HR1:=hId (HR.out.new2 hm6)
     have HP1:=hId (HP.out.new2 hm6)
     have HM1:Hid (New w _):=hId (HM.out.trans hm6)
     clear HR HM HP
     have HR:=HR1
     have HM:=HM1
     have HP:=HP1
     clear HR1 HM1 HP1
     clear hm6
     have d0:=HR.out.cell 0
     have d1:=HR.out.cell 1
     have f0:=HR.out.frozen 0
     have f1:=HR.out.frozen 1
     have dl:=HR.out.lt
     simp only [lqt,lqz,lqs]at d0 d1
     go_wp2_with fail
     refine bodyPost_ret (v:=.tuple #[PartD.val ⟨0,⟨#[]⟩⟩,.int .i64 6]) (by simp [results,Tryz.results101,go_sem,d0,d1,f0,f1,PartD.val]) rfl ⟨by rw [HQ.out] <;> rfl,?_⟩
     exact(HM.out.setCell (p:=⟨r,0,none⟩) (.inr (Nat.le_of_eq HRE.out)) _).setCell (p:=⟨r,1,none⟩) (.inr (Nat.le_of_eq HRE.out)) _
  ·have p0:=HP.out.cell 0
   have p1:=HP.out.cell 1
   have fp0:=HP.out.frozen 0
   have fp1:=HP.out.frozen 1
   have pl:=HP.out.lt
   simp only [lqt,lqz,lqs]at p0 p1
   have hP4:=HP.out.set 0 (.int .i64 3)
   simp at hP4
   have HP4:=hId hP4
   have hm4:Mod (fun k=>k=pb) w3 (w3.setCell ⟨pb,0,none⟩ (.int .i64 3)):=Mod.setCell (S:=fun k=>k=pb) (p:=⟨pb,0,none⟩) (Mod.refl _ _) (.inl rfl) _
   have HR4:=hId (HR.out.mod hm4 hne)
   have HM4:Hid (New w (w3.setCell ⟨pb,0,none⟩ (.int .i64 3))):=hId (HM.out.setCell (p:=⟨pb,0,none⟩) (.inr HRW.out) _)
   clear hP4 hm4 HR HM HP
   go_upto_region 10 with fail
   clear p0 p1 fp0 fp1 pl
   generalize w3.setCell ⟨pb,0,none⟩ (.int .i64 3)=w4 at *
   have HP:=HP4
   have HR:=HR4
   have HM:=HM4
   clear HP4 HR4 HM4
   have hiw:=HIW.out w4
   have p0:=HP.out.cell 0
   have p1:=HP.out.cell 1
   have fp0:=HP.out.frozen 0
   have fp1:=HP.out.frozen 1
   have pl:=HP.out.lt
   simp only [lqt,lqz,lqs]at p0 p1
   cases q1
   ·have HQ:Hid (partOf s ps true=(5,⟨0,⟨#[]⟩⟩)):=hId hP
    clear hP
    go_upto_region 11 with(first |(refine hiw.mono ?_;clear hiw;rintro e w5 ⟨rfl,hm5⟩))
    clear p0 p1 fp0 fp1 pl
    have HR1:=hId (HR.out.new2 hm5)
    have HP1:=hId (HP.out.new2 hm5)
    have HM1:Hid (New w _):=hId (HM.out.trans hm5)
    clear HR HM HP
    have HR:=HR1
    have HM:=HM1
    have HP:=HP1
    clear HR1 HM1 HP1
    clear hm5
    have d0:=HR.out.cell 0
    have d1:=HR.out.cell 1
    have f0:=HR.out.frozen 0
    have f1:=HR.out.frozen 1
    have dl:=HR.out.lt
    simp only [lqt,lqz,lqs]at d0 d1
    go_wp2_with fail
    refine bodyPost_ret (v:=.tuple #[PartD.val ⟨0,⟨#[]⟩⟩,.int .i64 5]) (by simp [results,Tryz.results101,go_sem,d0,d1,f0,f1,PartD.val]) rfl ⟨by rw [HQ.out] <;> rfl,?_⟩
    exact(HM.out.setCell (p:=⟨r,0,none⟩) (.inr (Nat.le_of_eq HRE.out)) _).setCell (p:=⟨r,1,none⟩) (.inr (Nat.le_of_eq HRE.out)) _
   ·rw [if_neg (by decide)]at hP
    go_upto_region 12 with(first |(refine hiw.mono ?_;clear hiw;rintro e w5 ⟨rfl,hm5⟩))
    clear p0 p1 fp0 fp1 pl
    have HR1:=hId (HR.out.new2 hm5)
    have HP1:=hId (HP.out.new2 hm5)
    have HM1:Hid (New w _):=hId (HM.out.trans hm5)
    clear HR HM HP
    have HR:=HR1
    have HM:=HM1
    have HP:=HP1
    clear HR1 HM1 HP1
    clear hm5
    have hhp:=HHP.out w5 HM.out
    have p0:=HP.out.cell 0
    have p1:=HP.out.cell 1
    have fp0:=HP.out.frozen 0
    have fp1:=HP.out.frozen 1
    have pl:=HP.out.lt
    simp only [lqt,lqz,lqs]at p0 p1
    cases q2
    ·rw [if_neg (by decide)]at hP
     have HQ:Hid (partOf s ps true=(0,⟨3,N⟩)):=hId hP
     clear hP
     go_upto_region 14 with(first |(refine hhp.mono ?_;clear hhp;rintro e w6 ⟨rfl,hm6⟩))
     clear p0 p1 fp0 fp1 pl
     have HR1:=hId (HR.out.new2 hm6)
     have HP1:=hId (HP.out.new2 hm6)
     have HM1:Hid (New w _):=hId (HM.out.trans hm6)
     clear HR HM HP
     have HR:=HR1
     have HM:=HM1
     have HP:=HP1
     clear HR1 HM1 HP1
     clear hm6
     have p0:=HP.out.cell 0
     have p1:=HP.out.cell 1
     have fp0:=HP.out.frozen 0
     have fp1:=HP.out.frozen 1
     have pl:=HP.out.lt
     simp only [lqt,lqz,lqs]at p0 p1
     have d0:=HR.out.cell 0
     have d1:=HR.out.cell 1
     have f0:=HR.out.frozen 0
     have f1:=HR.out.frozen 1
     have dl:=HR.out.lt
     simp only [lqt,lqz,lqs]at d0 d1
     go_wp2_with fail
     refine bodyPost_ret (v:=.tuple #[PartD.val ⟨3,N⟩,.int .i64 0]) (by simp [results,Tryz.results101,go_sem,d0,d1,f0,f1,PartD.val]) rfl ⟨by rw [HQ.out] <;> rfl,?_⟩
     exact(HM.out.setCell (p:=⟨r,0,none⟩) (.inr (Nat.le_of_eq HRE.out)) _).setCell (p:=⟨r,1,none⟩) (.inr (Nat.le_of_eq HRE.out)) _
    ·have HQ:Hid (partOf s ps true=(6,⟨0,⟨#[]⟩⟩)):=hId hP
     clear hP
     go_upto_region 13 with(first |(refine hhp.mono ?_;clear hhp;rintro e w6 ⟨rfl,hm6⟩))
     clear p0 p1 fp0 fp1 pl
     have HR1:=hId (HR.out.new2 hm6)
     have HP1:=hId (HP.out.new2 hm6)
     have HM1:Hid (New w _):=hId (HM.out.trans hm6)
     clear HR HM HP
     have HR:=HR1
     have HM:=HM1
     have HP:=HP1
     clear HR1 HM1 HP1
     clear hm6
     have d0:=HR.out.cell 0
     have d1:=HR.out.cell 1
     have f0:=HR.out.frozen 0
     have f1:=HR.out.frozen 1
     have dl:=HR.out.lt
     simp only [lqt,lqz,lqs]at d0 d1
     go_wp2_with fail
     refine bodyPost_ret (v:=.tuple #[PartD.val ⟨0,⟨#[]⟩⟩,.int .i64 6]) (by simp [results,Tryz.results101,go_sem,d0,d1,f0,f1,PartD.val]) rfl ⟨by rw [HQ.out] <;> rfl,?_⟩
     exact(HM.out.setCell (p:=⟨r,0,none⟩) (.inr (Nat.le_of_eq HRE.out)) _).setCell (p:=⟨r,1,none⟩) (.inr (Nat.le_of_eq HRE.out)) _
def bEnc (c:UInt8) (_:Nat):Value:=.int .u8 (c.toNat:Int)
theorem einfo_byte:EInfo Tryz.prog 5 1 1:=EInfo.of (z:=.int .u8 0) (by kernel_rfl) rfl (by decide)
theorem bEnc_one (c:UInt8) (j:Nat) (hj:j<1):(bEnc c j).oneCell'=true:=rfl
/-- a row of bytes of one's own as a string -/
theorem own_string {w:World} {B:Nat} {A:Option Addr} {n c:Nat} {l:List UInt8} (h:Own w B 5 1 bEnc A n c l):
  (convert 107 9 (.slice A n c)).run Tryz.prog w= .ok (.string ⟨l.toArray⟩) w:=by
 have hl:=h.1
 rcases h.blk with⟨rfl,rfl,rfl⟩ |⟨g,rfl,hB,htb⟩
 ·have h0:l= []:=List.eq_nil_of_length_eq_zero hl
  subst h0
  exact run_convert_bytes_nil (P:=Tryz.prog) w 107 5 Tryz.underlying107 Tryz.underlying5 0 0 9 Tryz.underlying9
 ·have:=run_convert_bytes_arg (P:=Tryz.prog) w 107 5 Tryz.underlying107 Tryz.underlying5 g 0 n c (l.map fun x=>(x.toNat:Int)) (by simp [hl]) (fun i hi=>by
   obtain⟨g',o,hA,_,hc⟩:=h.sl.2 (by omega)
   injection hA with hA
   injection hA with e1 e2 e3
   subst e1 e2
   have:=hc i (by omega) 0 (by decide)
   rw [show 0+i=0+i * 1+0 by omega,this]
   simp [bEnc,List.getD_eq_getElem?_getD,show i<l.length by omega]) 9 Tryz.underlying9
  have e:strOfNums (l.map fun x=>(x.toNat:Int))=⟨l.toArray⟩:=by
   unfold strOfNums
   rw [List.map_map]
   have hid:((fun n:Int=>UInt8.ofNat n.toNat)∘fun x:UInt8=>(x.toNat:Int))=id:=by
    funext x
    simp
   rw [hid,List.map_id]
  rw [e]at this
  exact this
theorem bad4_at (c:UInt8):badC c.toNat=(decide (c.toNat<33)||decide (126<c.toNat)||decide (0≤Lib.indexByte [63,35,123,125] c)):=by
 revert c
 apply byteOf
 decide +kernel
theorem hexAt_good {a b:UInt8} (ha:isHexN a.toNat=true) (hb:isHexN b.toNat=true):hexAt [48,48,a,b]=((unitV a b).toNat:Int):=by
 have v1:=hexV_lt ha
 have v2:=hexV_lt hb
 have hv:(unitV a b).toNat=16 * hexV a.toNat+hexV b.toNat:=by
  unfold unitV
  rw [UInt8.toNat_ofNat']
  omega
 unfold hexAt
 rw [if_neg (by simp),if_neg (by simp [ha,hb];decide),hv]
 simp [hexNum,hexV]
 omega
/-- what the reference reads behind a % -/
theorem hexAt_unit {s:List UInt8} {k:Nat} (hk:k<s.length):hexAt (48::48::(s.drop (k+1)).take 2)=if unitAt s k then((unitV (s.getD (k+1) 0) (s.getD (k+2) 0)).toNat:Int) else -1:=by
 cases hu:unitAt s k
 ·match hr:s.drop (k+1)with
  | []=>simp [hexAt]
  | [b]=>simp [hexAt]
  | b::c::r=>
   have hl:(s.drop (k+1)).length=r.length+2:=by rw [hr];rfl
   have hl2:k+2<s.length:=by simp only [List.length_drop]at hl;omega
   have e1:s.getD (k+1) 0=b:=by
    have:(s.drop (k+1))[0]? =some b:=by rw [hr];rfl
    simp only [List.getElem?_drop,Nat.add_zero]at this
    simp [List.getD_eq_getElem?_getD,this]
   have e2:s.getD (k+2) 0=c:=by
    have:(s.drop (k+1))[1]? =some c:=by rw [hr];rfl
    simp only [List.getElem?_drop]at this
    simp [List.getD_eq_getElem?_getD,show k+2=k+1+1 from rfl,this]
   unfold unitAt at hu
   rw [e1,e2,decide_eq_true hl2]at hu
   unfold hexAt
   rw [if_neg (by simp),if_pos ?_]
   ·rfl
   ·simp only [List.take_succ_cons,List.take_zero,List.all_cons,List.all_nil,Bool.and_true]
    rw [Bool.true_and]at hu
    rw [hu]
    rfl
 ·obtain⟨h1,h2,h3,_⟩:=unit_two hu
  rw [h1,hexAt_good h2 h3]
  rfl
set_option maxRecDepth 100000 in
set_option maxHeartbeats 8000000 in
theorem ref_partOf_words (s:ByteArray) (A:Option Addr) (n c:Nat) (ps:List PartD) (w:World) (hs:s.size≤100000) (h1:Lib.hasPrefix s.data.toList [123]=false):
  Calls Tryz.prog 101 #[.string s,.slice A n c] w (RPt (partOf s ps true) w):=by
 have hP:=partOf_words h1 ps true
 have hpx:=fun W=>Tryz.strings_HasPrefix s ⟨#[123]⟩ W
 rw [show (⟨#[123]⟩:ByteArray).data.toList= [123] from rfl,h1]at hpx
 have hb0:=Blk.new w 78 #[.int .i64 0,.string ⟨#[]⟩]
 have hm0:New w (w.alloc (.cells #[.int .i64 0,.string ⟨#[]⟩] 78)):=(Mod.refl _ _).alloc _
 clear h1
 go_enter Tryz.func101,Tryz.ntmps101
 go_upto_region 1 with(fail)
 generalize w.alloc (.cells #[.int .i64 0,.string ⟨#[]⟩] 78)=w1 at *
 generalize hre:w.heap.size=r at *
 have HR:=hId hb0
 have HM:Hid (New w w1):=hId hm0
 have HRE:=hId hre
 have hpx:=hpx w1
 have hrl:=hb0.lt
 clear hb0 hm0 hre
 have hcv:=Lib.run_convert_string_bytes (P:=Tryz.prog) w1 9 107 5 s (u:=.string) Tryz.underlying9 Tryz.underlying107 Tryz.underlying5
 have hB:∀ j,j<s.size→(Lib.bytesWorld w1 5 s).cell? ⟨w1.heap.size,j,none⟩=some (.int .u8 (s.data.toList.getD j 0).toNat):=fun j hj=>Lib.bytesWorld_cell w1 5 s j hj
 have hNW:=bytes_newH w1 5 s
 go_upto_region 15 with(first |(refine hpx.mono ?_;clear hpx;rintro e w' ⟨rfl,hw⟩;rw [hw];clear hw))
 generalize Lib.bytesWorld w1 5 s=w2 at *
 generalize w1.heap.size=cb at *
 have HB:=hId hB
 have HR1:=hId (HR.out.new2 hNW)
 have HM1:Hid (New w _):=hId (HM.out.trans hNW)
 clear HR HM
 have HR:=HR1
 have HM:=HM1
 clear HR1 HM1
 clear hNW hB hpx
 go_wp2_with fail
 have HBAD:Hid (∀ k (h:k<s.data.toList.length),badC (s.data.toList[k]).toNat=true→partOf s ps true=(3,⟨0,⟨#[]⟩⟩)):=hId (fun k h hb=>by rw [hP,if_pos (any_stop h hb)])
 go_loop [52] (fun vi=>∃ k:Nat,k≤s.size∧vi= .int .i64 k∧Hid ((s.data.toList.take k).any (fun c=>badC c.toNat)=false)) (fun vi=>s.size -(intOf vi).toNat)
 case atStart=>exact⟨0,Nat.zero_le _,rfl,hId rfl⟩
 case round=>
  obtain⟨k,hk,rfl,HA⟩:=hrel
  by_cases hkn:k<s.size
  ·have hkl:k<s.data.toList.length:=hkn
   have hc:=HB.out k hkn
   have hget:s.data.toList.getD k 0=s.data.toList[k]:=by simp [List.getD,List.getElem?_eq_getElem hkl]
   rw [hget]at hc
   have hbad:=HBAD.out k hkl
   have hnx:=any_take (p:=fun c=>badC c.toNat) hkl
   rw [HA.out,Bool.false_or]at hnx
   have hi:=Tryz.strings_IndexByte ⟨#[63,35,123,125]⟩ (s.data.toList[k].toNat:Int) w2
   rw [byteBack,show(⟨#[63,35,123,125]⟩:ByteArray).data.toList= [63,35,123,125] from rfl]at hi
   have hb4:=bad4_at s.data.toList[k]
   generalize s.data.toList[k]=x at *
   have hx256:=x.toNat_lt
   obtain⟨z,hz⟩:∃ z:Int,z=(x.toNat:Int):=⟨_,rfl⟩
   rw [← hz]at hc hi
   generalize Lib.indexByte [63,35,123,125] x=ri at *
   have hb1:(0:Int)≤k:=by omega
   have hb2:(k:Int)<s.size:=by omega
   by_cases bA:z<33
   ·have HQ:Hid (partOf s ps true=(3,⟨0,⟨#[]⟩⟩)):=hId (hbad (by rw [hb4];simp;omega))
    clear hbad hnx hb4 hz hP
    have d0:=HR.out.cell 0
    have d1:=HR.out.cell 1
    have f0:=HR.out.frozen 0
    have f1:=HR.out.frozen 1
    have dl:=HR.out.lt
    simp only [lqt,lqz,lqs]at d0 d1
    go_upto_region 19 with fail
    clear d0 d1 f0 f1 dl
    have d0:=HR.out.cell 0
    have d1:=HR.out.cell 1
    have f0:=HR.out.frozen 0
    have f1:=HR.out.frozen 1
    have dl:=HR.out.lt
    simp only [lqt,lqz,lqs]at d0 d1
    go_wp2_with fail
    refine bodyPost_ret (v:=.tuple #[PartD.val ⟨0,⟨#[]⟩⟩,.int .i64 3]) (by simp [results,Tryz.results101,go_sem,d0,d1,f0,f1,PartD.val]) rfl ⟨by rw [HQ.out] <;> rfl,?_⟩
    exact(HM.out.setCell (p:=⟨r,0,none⟩) (.inr (Nat.le_of_eq HRE.out)) _).setCell (p:=⟨r,1,none⟩) (.inr (Nat.le_of_eq HRE.out)) _
   ·by_cases bB:126<z
    ·have HQ:Hid (partOf s ps true=(3,⟨0,⟨#[]⟩⟩)):=hId (hbad (by rw [hb4];simp;omega))
     clear hbad hnx hb4 hz hP
     have d0:=HR.out.cell 0
     have d1:=HR.out.cell 1
     have f0:=HR.out.frozen 0
     have f1:=HR.out.frozen 1
     have dl:=HR.out.lt
     simp only [lqt,lqz,lqs]at d0 d1
     go_upto_region 19 with fail
     clear d0 d1 f0 f1 dl
     have d0:=HR.out.cell 0
     have d1:=HR.out.cell 1
     have f0:=HR.out.frozen 0
     have f1:=HR.out.frozen 1
     have dl:=HR.out.lt
     simp only [lqt,lqz,lqs]at d0 d1
     go_wp2_with fail
     refine bodyPost_ret (v:=.tuple #[PartD.val ⟨0,⟨#[]⟩⟩,.int .i64 3]) (by simp [results,Tryz.results101,go_sem,d0,d1,f0,f1,PartD.val]) rfl ⟨by rw [HQ.out] <;> rfl,?_⟩
     exact(HM.out.setCell (p:=⟨r,0,none⟩) (.inr (Nat.le_of_eq HRE.out)) _).setCell (p:=⟨r,1,none⟩) (.inr (Nat.le_of_eq HRE.out)) _
    ·by_cases bC:0≤ri
     ·have HQ:Hid (partOf s ps true=(3,⟨0,⟨#[]⟩⟩)):=hId (hbad (by rw [hb4];simp;omega))
      clear hbad hnx hb4 hz hP
      have d0:=HR.out.cell 0
      have d1:=HR.out.cell 1
      have f0:=HR.out.frozen 0
      have f1:=HR.out.frozen 1
      have dl:=HR.out.lt
      simp only [lqt,lqz,lqs]at d0 d1
      go_upto_region 19 with(first |(refine hi.mono ?_;clear hi;rintro e w' ⟨rfl,hw⟩;rw [hw];clear hw))
      clear d0 d1 f0 f1 dl
      have d0:=HR.out.cell 0
      have d1:=HR.out.cell 1
      have f0:=HR.out.frozen 0
      have f1:=HR.out.frozen 1
      have dl:=HR.out.lt
      simp only [lqt,lqz,lqs]at d0 d1
      go_wp2_with fail
      refine bodyPost_ret (v:=.tuple #[PartD.val ⟨0,⟨#[]⟩⟩,.int .i64 3]) (by simp [results,Tryz.results101,go_sem,d0,d1,f0,f1,PartD.val]) rfl ⟨by rw [HQ.out] <;> rfl,?_⟩
      exact(HM.out.setCell (p:=⟨r,0,none⟩) (.inr (Nat.le_of_eq HRE.out)) _).setCell (p:=⟨r,1,none⟩) (.inr (Nat.le_of_eq HRE.out)) _
     ·have hnb:badC x.toNat=false:=by rw [hb4];simp;omega
      rw [hnb]at hnx
      have HN:=hId hnx
      clear hbad hnx hb4 hz hP hnb
      go_wp2_with (first |(refine hi.mono ?_;clear hi;rintro e w' ⟨rfl,hw⟩;rw [hw];clear hw))
      exact⟨⟨k+1,by omega,by go_num,HN⟩,by simp [intOf];omega⟩
  ·obtain rfl:k=s.size:=by omega
   have hfull:s.data.toList.take s.size=s.data.toList:=List.take_length
   have hnb:=HA.out
   rw [hfull]at hnb
   rw [hnb,if_neg (by decide)]at hP
   clear HA HB HBAD hfull hnb hcv
   have HP:=hId hP
   clear hP
   have hz2:=HR.out.lt
   have HW2:Hid (New w2 w2):=hId (Mod.refl _ _)
   obtain⟨BB,hBB⟩:∃ BB,BB=w2.heap.size:=⟨_,rfl⟩
   have hrB:r<BB:=by omega
   have HRB:Hid (w.heap.size≤BB):=hId (by have:=HRE.out;omega)
   go_upto_region 23 with fail
   clear hz2
   go_loopw [12,13] (fun o i wr=>∃(k:Nat) (A':Option Addr) (c':Nat) (l:List UInt8),k≤s.size∧i= .int .i64 k∧o= .slice A' l.length c'∧Hid (DecTo s.data.toList k l)∧Hid (Own wr BB 5 1 bEnc A' l.length c' l)∧Hid (Blk wr r 78 #[.int .i64 0,.string ⟨#[]⟩])∧Hid (New w wr)∧BB≤wr.heap.size) (fun _ i _=>s.size -(intOf i).toNat)
   case atStart=>exact⟨0,none,0,[],Nat.zero_le _,rfl,rfl,hId (DecTo.start _),hId Own.nil,HR,HM,by omega⟩
   case round=>
    clear HR HM HW2 hBB
    rename World=>wr
    obtain⟨k,A',c',l,hk,rfl,rfl,HD,HO,HR,HM,hBw⟩:=hrel
    have hl1:l.length≤100000:=by have:=HD.out.2;omega
    by_cases hlt:k<s.size
    ·have hkl:k<s.data.toList.length:=hlt
     have HG:Hid (s.data.toList[k]=s[k]):=hId rfl
     by_cases h37:s[k]=37
     ·have c1:((s[k].toNat:Int) != 37)=false:=by rw [h37];rfl
      have H37:s.data.toList[k]=37:=HG.out.trans h37
      have hlen:s.data.toList.length=s.size:=rfl
      obtain⟨T,hTd⟩:∃ T:ByteArray,T=(⟨#[48,48]⟩:ByteArray)++s.extract (k+1) (min (k+3) s.size):=⟨_,rfl⟩
      have hT:T.data.toList=48::48::(s.data.toList.drop (k+1)).take 2:=by
       rw [hTd,ByteArray.data_append,Array.toList_append,extract_data]
       show([48,48]:List UInt8)++_=_
       rw [List.cons_append,List.cons_append,List.nil_append]
       congr 2
       by_cases hm:k+3≤s.size
       ·rw [Nat.min_eq_left hm];congr 1;omega
       ·rw [Nat.min_eq_right (by omega),List.take_of_length_le (by rw [List.length_drop];omega),List.take_of_length_le (by rw [List.length_drop];omega)]
      have hTz:T.size≤4:=by
       have:T.data.toList.length=T.size:=rfl
       rw [hT]at this
       simp at this
       omega
      have hx:=fun W=>ref_hex T W (by omega)
      rw [hT,hexAt_unit hkl]at hx
      have n1:((k:Int)+1).toNat=k+1:=by omega
      have hadd:¬ 9223372036854775807<(⟨#[48,48]⟩:ByteArray).size+(s.extract (k+1) (min (k+3) s.size)).size:=by
       have e:(⟨#[48,48]⟩:ByteArray).size=2:=rfl
       simp only [ByteArray.size_extract]
       omega
      have hb1:(k:Int)<s.size:=by omega
      have emin:(min ((k:Int)+3) (s.size:Int)).toNat=min (k+3) s.size:=by omega
      have HX:=hId hx
      have HTD:=hId hTd
      clear hT hTz hx hTd
      go_upto_region 27 with fail
      go_wp2_with fail
      rw [← HTD.out]
      clear HTD hadd
      have hx:=HX.out wr
      cases hua:unitAt s.data.toList k <;> rw [hua]at hx
      ·have hdec:=HD.out.bad hkl H37 hua
       have hpw:=HP.out
       rw [hdec]at hpw
       have HQ:Hid (partOf s ps true=(9,⟨0,⟨#[]⟩⟩)):=hId hpw
       clear hpw hdec hua HO HD HX H37
       simp only [Bool.false_eq_true,if_false]at hx
       refine hx.mono ?_
       clear hx
       rintro e w5 ⟨rfl,hm5⟩
       have HR1:=hId (HR.out.new2 hm5)
       have HM1:Hid (New w _):=hId (HM.out.trans hm5)
       clear HR HM
       have HR:=HR1
       have HM:=HM1
       clear HR1 HM1
       clear hm5
       go_upto_region 29 with fail
       have d0:=HR.out.cell 0
       have d1:=HR.out.cell 1
       have f0:=HR.out.frozen 0
       have f1:=HR.out.frozen 1
       have dl:=HR.out.lt
       simp only [lqt,lqz,lqs]at d0 d1
       go_wp2_with fail
       refine bodyPost_ret (v:=.tuple #[PartD.val ⟨0,⟨#[]⟩⟩,.int .i64 9]) (by simp [results,Tryz.results101,go_sem,d0,d1,f0,f1,PartD.val]) rfl ⟨by rw [HQ.out] <;> rfl,?_⟩
       exact(HM.out.setCell (p:=⟨r,0,none⟩) (.inr (Nat.le_of_eq HRE.out)) _).setCell (p:=⟨r,1,none⟩) (.inr (Nat.le_of_eq HRE.out)) _
      ·have HD1:=hId (HD.out.unit hkl H37 hua)
       have hk3:k+3≤s.size:=(unit_two hua).2.2.2
       have HOF:Hid (∀ g,blkOf A'=some g→BB≤g):=hId (fun g e=>HO.out.farB g e)
       simp only [if_true]at hx
       generalize unitV (s.data.toList.getD (k+1) 0) (s.data.toList.getD (k+2) 0)=cu at *
       have hc1:(cu.toNat:Int)<256:=by have:=cu.toNat_lt;omega
       have hc0:¬ (cu.toNat:Int)<0:=by omega
       clear hua HD HX H37
       refine hx.mono ?_
       clear hx
       rintro e w5 ⟨rfl,hm5⟩
       have HR1:=hId (HR.out.new2 hm5)
       have HM1:Hid (New w _):=hId (HM.out.trans hm5)
       clear HR HM
       have HR:=HR1
       have HM:=HM1
       clear HR1 HM1
       have HO5:=hId (HO.out.new hm5)
       have hz5:=hm5.size
       clear hm5 HO
       have hnp:New w5 (w5.alloc (.cells #[.int .u8 (cu.toNat:Int)] 5)):=(Mod.refl _ _).alloc _
       go_wp2_with (at_builtin;refine wpList_push rfl _ _ _ rfl 1 Tryz.underlying107 einfo_byte rfl (HO5.out.new hnp) cu w5.heap.size rfl (Blk.new _ _ _) (fun j hj=>bEnc_one _ j hj) (by omega) (by omega) (by simp;omega) ?_;intro g8 cap8 w8 own8 hm8 hat8 hlt8)
       have HO8:=hId own8
       have HM8:Hid (New w w8):=hId ((HM.out.trans hnp).step hm8 (fun i hi e=>by have:=HOF.out i e;have:=HRB.out;omega))
       have HR8:=hId ((HR.out.new2 hnp).mod hm8 (fun e=>by have:=HOF.out r e;omega))
       have hz8:=hm8.size
       have hz9:=hnp.size
       clear own8 hm8 hnp
       go_roundw
       case rel=>exact⟨k+3,some ⟨g8,0,none⟩,cap8,l++ [cu],by omega,by go_num,by rw [List.length_append];rfl,HD1,by rw [List.length_append];exact HO8,HR8,HM8,by omega⟩
       case measure=>simp [intOf];omega
     ·have c1:((s[k].toNat:Int) != 37)=true:=by
       simp only [bne_iff_ne,ne_eq]
       intro h
       exact h37 (UInt8.toNat_inj.1 (by have:(37:UInt8).toNat=37:=rfl;omega))
      have HD1:=hId (HD.out.plain hkl (by rw [HG.out];exact h37))
      rw [HG.out]at HD1
      have HOF:Hid (∀ g,blkOf A'=some g→BB≤g):=hId (fun g e=>HO.out.farB g e)
      clear h37 HD
      have hnp:New wr (wr.alloc (.cells #[.int .u8 (s[k].toNat:Int)] 5)):=(Mod.refl _ _).alloc _
      go_wp2_with (at_builtin;refine wpList_push rfl _ _ _ rfl 1 Tryz.underlying107 einfo_byte rfl (HO.out.new hnp) s[k] wr.heap.size rfl (Blk.new _ _ _) (fun j hj=>bEnc_one _ j hj) (by omega) (by omega) (by simp;omega) ?_;intro g8 cap8 w8 own8 hm8 hat8 hlt8)
      have HO8:=hId own8
      have HM8:Hid (New w w8):=hId ((HM.out.trans hnp).step hm8 (fun i hi e=>by have:=HOF.out i e;have:=HRB.out;omega))
      have HR8:=hId ((HR.out.new2 hnp).mod hm8 (fun e=>by have:=HOF.out r e;omega))
      have hz8:=hm8.size
      have hz9:=hnp.size
      clear own8 hm8 hnp
      go_roundw
      case rel=>exact⟨k+1,some ⟨g8,0,none⟩,cap8,l++ [s[k]],by omega,by go_num,by rw [List.length_append];rfl,HD1,by rw [List.length_append];exact HO8,HR8,HM8,by omega⟩
      case measure=>simp [intOf];omega
    ·obtain rfl:k=s.size:=by omega
     have hdec:=HD.out.done (Nat.le_refl _)
     have hpw:=HP.out
     rw [hdec]at hpw
     have hdt:=dots_eq ⟨l.toArray⟩
     have hcv2:=own_string HO.out
     have b1:=beq_const (⟨l.toArray⟩:ByteArray) [46]
     have b2:=beq_const (⟨l.toArray⟩:ByteArray) [46,46]
     rw [show (⟨l.toArray⟩:ByteArray).data.toList=l from rfl]at b1 b2
     unfold wordsPart dotsL at hpw
     simp only at hpw
     generalize hN:(⟨l.toArray⟩:ByteArray)=N at *
     generalize decide (l= [46])=q1 at *
     generalize decide (l= [46,46])=q2 at *
     clear hdt hdec HD hlt
     cases q1
     ·cases q2
      ·have HQ:Hid (partOf s ps true=(0,⟨1,N⟩)):=hId hpw
       clear hpw HO
       go_upto_region 35 with fail
       have d0:=HR.out.cell 0
       have d1:=HR.out.cell 1
       have f0:=HR.out.frozen 0
       have f1:=HR.out.frozen 1
       have dl:=HR.out.lt
       simp only [lqt,lqz,lqs]at d0 d1
       go_wp2_with fail
       refine bodyPost_ret (v:=.tuple #[PartD.val ⟨1,N⟩,.int .i64 0]) (by simp [results,Tryz.results101,go_sem,d0,d1,f0,f1,PartD.val]) rfl ⟨by rw [HQ.out] <;> rfl,?_⟩
       exact(HM.out.setCell (p:=⟨r,0,none⟩) (.inr (Nat.le_of_eq HRE.out)) _).setCell (p:=⟨r,1,none⟩) (.inr (Nat.le_of_eq HRE.out)) _
      ·have HQ:Hid (partOf s ps true=(5,⟨0,⟨#[]⟩⟩)):=hId hpw
       clear hpw HO
       go_upto_region 34 with fail
       have d0:=HR.out.cell 0
       have d1:=HR.out.cell 1
       have f0:=HR.out.frozen 0
       have f1:=HR.out.frozen 1
       have dl:=HR.out.lt
       simp only [lqt,lqz,lqs]at d0 d1
       go_wp2_with fail
       refine bodyPost_ret (v:=.tuple #[PartD.val ⟨0,⟨#[]⟩⟩,.int .i64 5]) (by simp [results,Tryz.results101,go_sem,d0,d1,f0,f1,PartD.val]) rfl ⟨by rw [HQ.out] <;> rfl,?_⟩
       exact(HM.out.setCell (p:=⟨r,0,none⟩) (.inr (Nat.le_of_eq HRE.out)) _).setCell (p:=⟨r,1,none⟩) (.inr (Nat.le_of_eq HRE.out)) _
     ·have HQ:Hid (partOf s ps true=(5,⟨0,⟨#[]⟩⟩)):=hId hpw
      clear hpw HO
      go_upto_region 34 with fail
      have d0:=HR.out.cell 0
      have d1:=HR.out.cell 1
      have f0:=HR.out.frozen 0
      have f1:=HR.out.frozen 1
      have dl:=HR.out.lt
      simp only [lqt,lqz,lqs]at d0 d1
      go_wp2_with fail
      refine bodyPost_ret (v:=.tuple #[PartD.val ⟨0,⟨#[]⟩⟩,.int .i64 5]) (by simp [results,Tryz.results101,go_sem,d0,d1,f0,f1,PartD.val]) rfl ⟨by rw [HQ.out] <;> rfl,?_⟩
      exact(HM.out.setCell (p:=⟨r,0,none⟩) (.inr (Nat.le_of_eq HRE.out)) _).setCell (p:=⟨r,1,none⟩) (.inr (Nat.le_of_eq HRE.out)) _
end Go.Proofs.YtnlloaimplgjnaaGreatDoor
