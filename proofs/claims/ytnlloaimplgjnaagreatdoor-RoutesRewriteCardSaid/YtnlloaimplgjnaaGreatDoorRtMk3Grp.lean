/- Several texts in one. (1) Stream.OneRoute: a route of modest size (written by mkrtmk.py). Conditions: those of the stream; the library's variable on searching is an int. (2) slices.IndexFunc and ContainsFunc of parts, over a function value that asks anything of a part (printed by mkparq.py). Conditions: at most 100000 parts. (3) The reference: toFault of routes. Conditions: at most 100000 parts. -/
import Derived.Test.YtnlloaimplgjnaaGreatDoorRtMk2
import Derived.Test.YtnlloaimplgjnaaGreatDoorRtLawGrp
import Derived.Test.YtnlloaimplgjnaaGreatDoorSeg3Grp
import Derived.Test.YtnlloaimplgjnaaGreatDoorNormBGrp
namespace Go.Proofs.YtnlloaimplgjnaaGreatDoor
open Go.RowKit
set_option linter.unusedVariables false
set_option linter.unusedSimpArgs false
set_option maxRecDepth 100000 in
set_option maxHeartbeats 2000000 in
theorem oneRoute_any (key:ByteArray) (b k:Nat) (w:World) (hs:SInv b w k) (hk:k<4611686018425000000) (hx:MaxB b w) (hks:key.size≤10):
  Calls Tryz.prog 4 #[.pointer (some ⟨b,0,none⟩),.string key] w (RRt b w (k+60)):=by
 have hbl:=hs.lt
 have HML0:Hid (0<w.heap.size):=hId hx.1.lt
 have hR:=Blk.new w 29 #[.string ⟨#[]⟩,.slice none 0 0,.string ⟨#[]⟩,.slice none 0 0,.slice none 0 0,.string ⟨#[]⟩]
 have T0:=(SStep.refl hs).alloc (.cells #[.string ⟨#[]⟩,.slice none 0 0,.string ⟨#[]⟩,.slice none 0 0,.slice none 0 0,.string ⟨#[]⟩] 29)
 have hx0:MaxB b (w.alloc (.cells #[.string ⟨#[]⟩,.slice none 0 0,.string ⟨#[]⟩,.slice none 0 0,.slice none 0 0,.string ⟨#[]⟩] 29)):=hx.mod ((Mod.refl (fun _=>False) _).alloc _) (fun e=>e)
 go_enter Tryz.func4,Tryz.ntmps4
 go_upto_region 1 with fail
 generalize w.alloc (.cells #[.string ⟨#[]⟩,.slice none 0 0,.string ⟨#[]⟩,.slice none 0 0,.slice none 0 0,.string ⟨#[]⟩] 29)=w0 at *
 generalize hrb:w.heap.size=rb at *
 have hrr:=rightRoute_any key b k w0 T0.inv (by omega) hx0 hks
 go_wp2_with fail
 refine hrr.mono ?_
 clear hrr
 rintro e w1 ⟨⟨y0,y1,y2,y3,y4,y5,y6,y7,y8,y9,ya,yc⟩,r0,rfl,hat,hmi,h1⟩
 have HRB1:=hId (hR.mod h1.only (by omega))
 have HMX1:=hId (hx0.stream h1)
 have T1:=T0.trans h1
 have HAT:=hId hat
 have HMI:=hId hmi
 clear h1 hR hx hx0 hat hmi T0 hs
 simp only [RA.val]
 go_upto_region 2 with fail
 have hbx:=Blk.new w1 29 #[.string y0,.slice y1 y2 y3,.string y4,.slice y5 y6 y7,.slice y8 y9 ya,.string yc]
 have T2:=T1.alloc (.cells #[.string y0,.slice y1 y2 y3,.string y4,.slice y5 y6 y7,.slice y8 y9 ya,.string yc] 29)
 have HI0:Hid (∃ x r,RtIn (w1.alloc (.cells #[.string y0,.slice y1 y2 y3,.string y4,.slice y5 y6 y7,.slice y8 y9 ya,.string yc] 29)) w1.heap.size x r):=hId ⟨⟨y0,y1,y2,y3,y4,y5,y6,y7,y8,y9,ya,yc⟩,r0,hbx,HAT.out.new ((Mod.refl _ _).alloc _),HMI.out⟩
 have HRB0:=hId (HRB1.out.keepA (.cells #[.string y0,.slice y1 y2 y3,.string y4,.slice y5 y6 y7,.slice y8 y9 ya,.string yc] 29))
 have HML:Hid (0<rb):=HML0
 have HMX0:Hid (MaxB b (w1.alloc (.cells #[.string y0,.slice y1 y2 y3,.string y4,.slice y5 y6 y7,.slice y8 y9 ya,.string yc] 29))):=hId (HMX1.out.stream ((SStep.refl T1.inv).alloc _))
 have hxb:rb<w1.heap.size:=HRB1.out.lt
 have T:=T2.more (show k+20≤k+21 by omega)
 clear hbx T1 T2 HRB1 HMX1 HAT HMI
 generalize w1.alloc (.cells #[.string y0,.slice y1 y2 y3,.string y4,.slice y5 y6 y7,.slice y8 y9 ya,.string yc] 29)=w2 at *
 generalize w1.heap.size=xb at *
 have hbxb:b<xb:=by omega
 obtain⟨x,r,hi0⟩:=HI0.out
 clear HI0
 have HI0:=hId hi0
 clear hi0
 go_upto_if 10 with(first |(refine (flip_any b _ 12 _ T.inv (by omega) (by omega) (by omega)).mono ?_;rintro e w3 ⟨q,rfl,h3⟩))
 have HI:=hId (HI0.out.stream T.inv h3)
 have HRB:=hId (HRB0.out.mod h3.only (by omega))
 have HMX:=hId (HMX0.out.stream h3)
 have T3:=T.trans h3
 clear h3 HI0 HRB0 HMX0 T
 have T:=T3
 clear T3
 go_cut [] (fun wx=>∃ x r,Hid (RtIn wx xb x r)∧Hid (Blk wx rb 29 #[.string ⟨#[]⟩,.slice none 0 0,.string ⟨#[]⟩,.slice none 0 0,.slice none 0 0,.string ⟨#[]⟩])∧Hid (SStep b w wx (k+40))∧Hid (MaxB b wx))
 case first=>
  cases q
  ·go_wp2_with fail
   go_meet
   case rel=>exact⟨_,_,HI,HRB,hId (T.more (by omega)),HMX⟩
  ·go_wp2_with fail
   refine(next_any b _ 6 _ T.inv (by omega) (by omega) (by omega)).mono ?_
   rintro e w5 ⟨mm,rfl,n0,n1,h5⟩
   have HI5:=hId (HI.out.stream T.inv h5)
   have HRB5:=hId (HRB.out.mod h5.only (by omega))
   have HMX5:=hId (HMX.out.stream h5)
   have T5:=T.trans h5
   clear h5 HI HRB HMX T
   have HI:=HI5
   have HRB:=HRB5
   have HMX:=HMX5
   have T:=T5
   clear HI5 HRB5 HMX5 T5
   obtain rfl | rfl | rfl | rfl | rfl | rfl:mm=0∨mm=1∨mm=2∨mm=3∨mm=4∨mm=5:=by omega
   ·go_wp2_with fail
    refine(some_any [⟨#[]⟩,⟨#[65]⟩,⟨#[114,97]⟩] b _ w5.heap.size 3 _ (T.alloc _).inv (by omega) (Blk.new _ _ _) rfl (by omega) (by omega)).mono ?_
    rintro e w4 ⟨v,rfl,hv,h4⟩
    have HVZ:Hid (v.size≤10):=hId (by
     simp only [List.mem_cons,List.not_mem_nil,or_false]at hv
     rcases hv with rfl | rfl | rfl
     all_goals first | decide)
    have T4:=(T.alloc (.cells #[.string ⟨#[]⟩,.string ⟨#[65]⟩,.string ⟨#[114,97]⟩] 9)).trans h4
    have HI4:=hId ((HI.out.new ((Mod.refl _ _).alloc (.cells #[.string ⟨#[]⟩,.string ⟨#[65]⟩,.string ⟨#[114,97]⟩] 9))).stream (T.alloc _).inv h4)
    have HRB4:=hId ((HRB.out.keepA (.cells #[.string ⟨#[]⟩,.string ⟨#[65]⟩,.string ⟨#[114,97]⟩] 9)).mod h4.only (by omega))
    have HMX4:=hId ((HMX.out.mod ((Mod.refl (fun _=>False) _).alloc (.cells #[.string ⟨#[]⟩,.string ⟨#[65]⟩,.string ⟨#[114,97]⟩] 9)) (fun e=>e)).stream h4)
    clear HI HRB HMX T h4 hv
    have HI:=HI4
    have HRB:=HRB4
    have HMX:=HMX4
    have T:=T4
    clear HI4 HRB4 HMX4 T4
    have q0:=HI.out.blk.cell 0
    have q1:=HI.out.blk.cell 1
    have q2:=HI.out.blk.cell 2
    have q3:=HI.out.blk.cell 3
    have q4:=HI.out.blk.cell 4
    have q5:=HI.out.blk.cell 5
    have qf:=HI.out.blk.frozen
    have ql:=HI.out.blk.lt
    simp only [lqt,lqz,lqs]at q0 q1 q2 q3 q4 q5
    have HF:=hId (RtIn.key HI.out HVZ.out)
    have HS:=Mod.setCell (S:=fun i=>i=xb) (p:=⟨xb,0,none⟩) (Mod.refl _ w4) (.inl rfl) (.string v)
    have HRF:=hId (HRB.out.mod HS (by omega))
    have HMF:=hId (HMX.out.mod HS (by have:=HML.out;omega))
    have TF:=hId ((T.set (p:=⟨xb,0,none⟩) (by show w.heap.size≤xb;omega) (.string v)).more (show _≤k+40 by omega))
    clear HS HI HRB HMX T
    go_wp2_with fail
    go_meet
    case rel=>exact⟨_,_,HF,HRF,TF,HMF⟩
   ·have L:=lit7 w5 9 26 (#[.string ⟨#[65,46,98]⟩]) (#[.string ⟨#[97,46,98,58,56,48]⟩]) (#[.string ⟨#[42,46]⟩]) (#[.string ⟨#[42,46,42,46,98]⟩]) (#[.string ⟨#[97,46,98]⟩,.string ⟨#[97,46,98]⟩]) (#[.string ⟨#[]⟩]) (#[.slice (some ⟨w5.heap.size,0,none⟩) 1 1,.slice (some ⟨w5.heap.size+1,0,none⟩) 1 1,.slice (some ⟨w5.heap.size+1+1,0,none⟩) 1 1,.slice (some ⟨w5.heap.size+1+1+1,0,none⟩) 1 1,.slice (some ⟨w5.heap.size+1+1+1+1,0,none⟩) 2 2,.slice (some ⟨w5.heap.size+1+1+1+1+1,0,none⟩) 1 1])
    go_wp2_with fail
    refine(next_any b _ 6 _ (T.new L.new).inv (by omega) (by omega) (by omega)).mono ?_
    rintro e w4 ⟨m,rfl,m0,m1,h4⟩
    have hwb:b<w5.heap.size:=by have:=T.only.size;omega
    have b0:=L.b0.mod h4.only (by omega)
    have b1:=L.b1.mod h4.only (by omega)
    have b2:=L.b2.mod h4.only (by omega)
    have b3:=L.b3.mod h4.only (by omega)
    have b4:=L.b4.mod h4.only (by omega)
    have b5:=L.b5.mod h4.only (by omega)
    have b6:=L.b6.mod h4.only (by omega)
    have HI4:=hId ((HI.out.new L.new).stream (T.new L.new).inv h4)
    have HRB4:=hId ((HRB.out.mod L.new (fun e=>e)).mod h4.only (by omega))
    have HMX4:=hId ((HMX.out.mod L.new (fun e=>e)).stream h4)
    have T4:=(T.new L.new).trans h4
    have hob:=b6.lt
    clear HI HRB HMX T L h4
    have HI:=HI4
    have HRB:=HRB4
    have HMX:=HMX4
    have T:=T4
    clear HI4 HRB4 HMX4 T4
    obtain rfl | rfl | rfl | rfl | rfl | rfl:m=0∨m=1∨m=2∨m=3∨m=4∨m=5:=by omega
    ·have c:=b6.cell 0
     simp only [lqt,lqz,lqs]at c
     have q0:=HI.out.blk.cell 0
     have q1:=HI.out.blk.cell 1
     have q2:=HI.out.blk.cell 2
     have q3:=HI.out.blk.cell 3
     have q4:=HI.out.blk.cell 4
     have q5:=HI.out.blk.cell 5
     have qf:=HI.out.blk.frozen
     have ql:=HI.out.blk.lt
     simp only [lqt,lqz,lqs]at q0 q1 q2 q3 q4 q5
     have HF:=hId (RtIn.hosts HI.out (strs_row (ws:=[⟨#[65,46,98]⟩]) b0) (Nat.le_refl _) (by decide +kernel))
     have HS:=Mod.setCell (S:=fun i=>i=xb) (p:=⟨xb,1,none⟩) (Mod.refl _ w4) (.inl rfl) (.slice (some ⟨w5.heap.size,0,none⟩) 1 1)
     have HRF:=hId (HRB.out.mod HS (by omega))
     have HMF:=hId (HMX.out.mod HS (by have:=HML.out;omega))
     have TF:=hId ((T.set (p:=⟨xb,1,none⟩) (by show w.heap.size≤xb;omega) (.slice (some ⟨w5.heap.size,0,none⟩) 1 1)).more (show _≤k+40 by omega))
     clear HS HI HRB HMX T b0 b1 b2 b3 b4 b5 b6
     go_wp2_with fail
     go_meet
     case rel=>exact⟨_,_,HF,HRF,TF,HMF⟩
    ·have c:=b6.cell 1
     simp only [lqt,lqz,lqs]at c
     have q0:=HI.out.blk.cell 0
     have q1:=HI.out.blk.cell 1
     have q2:=HI.out.blk.cell 2
     have q3:=HI.out.blk.cell 3
     have q4:=HI.out.blk.cell 4
     have q5:=HI.out.blk.cell 5
     have qf:=HI.out.blk.frozen
     have ql:=HI.out.blk.lt
     simp only [lqt,lqz,lqs]at q0 q1 q2 q3 q4 q5
     have HF:=hId (RtIn.hosts HI.out (strs_row (ws:=[⟨#[97,46,98,58,56,48]⟩]) b1) (Nat.le_refl _) (by decide +kernel))
     have HS:=Mod.setCell (S:=fun i=>i=xb) (p:=⟨xb,1,none⟩) (Mod.refl _ w4) (.inl rfl) (.slice (some ⟨w5.heap.size+1,0,none⟩) 1 1)
     have HRF:=hId (HRB.out.mod HS (by omega))
     have HMF:=hId (HMX.out.mod HS (by have:=HML.out;omega))
     have TF:=hId ((T.set (p:=⟨xb,1,none⟩) (by show w.heap.size≤xb;omega) (.slice (some ⟨w5.heap.size+1,0,none⟩) 1 1)).more (show _≤k+40 by omega))
     clear HS HI HRB HMX T b0 b1 b2 b3 b4 b5 b6
     go_wp2_with fail
     go_meet
     case rel=>exact⟨_,_,HF,HRF,TF,HMF⟩
    ·have c:=b6.cell 2
     simp only [lqt,lqz,lqs]at c
     have q0:=HI.out.blk.cell 0
     have q1:=HI.out.blk.cell 1
     have q2:=HI.out.blk.cell 2
     have q3:=HI.out.blk.cell 3
     have q4:=HI.out.blk.cell 4
     have q5:=HI.out.blk.cell 5
     have qf:=HI.out.blk.frozen
     have ql:=HI.out.blk.lt
     simp only [lqt,lqz,lqs]at q0 q1 q2 q3 q4 q5
     have HF:=hId (RtIn.hosts HI.out (strs_row (ws:=[⟨#[42,46]⟩]) b2) (Nat.le_refl _) (by decide +kernel))
     have HS:=Mod.setCell (S:=fun i=>i=xb) (p:=⟨xb,1,none⟩) (Mod.refl _ w4) (.inl rfl) (.slice (some ⟨w5.heap.size+1+1,0,none⟩) 1 1)
     have HRF:=hId (HRB.out.mod HS (by omega))
     have HMF:=hId (HMX.out.mod HS (by have:=HML.out;omega))
     have TF:=hId ((T.set (p:=⟨xb,1,none⟩) (by show w.heap.size≤xb;omega) (.slice (some ⟨w5.heap.size+1+1,0,none⟩) 1 1)).more (show _≤k+40 by omega))
     clear HS HI HRB HMX T b0 b1 b2 b3 b4 b5 b6
     go_wp2_with fail
     go_meet
     case rel=>exact⟨_,_,HF,HRF,TF,HMF⟩
    ·have c:=b6.cell 3
     simp only [lqt,lqz,lqs]at c
     have q0:=HI.out.blk.cell 0
     have q1:=HI.out.blk.cell 1
     have q2:=HI.out.blk.cell 2
     have q3:=HI.out.blk.cell 3
     have q4:=HI.out.blk.cell 4
     have q5:=HI.out.blk.cell 5
     have qf:=HI.out.blk.frozen
     have ql:=HI.out.blk.lt
     simp only [lqt,lqz,lqs]at q0 q1 q2 q3 q4 q5
     have HF:=hId (RtIn.hosts HI.out (strs_row (ws:=[⟨#[42,46,42,46,98]⟩]) b3) (Nat.le_refl _) (by decide +kernel))
     have HS:=Mod.setCell (S:=fun i=>i=xb) (p:=⟨xb,1,none⟩) (Mod.refl _ w4) (.inl rfl) (.slice (some ⟨w5.heap.size+1+1+1,0,none⟩) 1 1)
     have HRF:=hId (HRB.out.mod HS (by omega))
     have HMF:=hId (HMX.out.mod HS (by have:=HML.out;omega))
     have TF:=hId ((T.set (p:=⟨xb,1,none⟩) (by show w.heap.size≤xb;omega) (.slice (some ⟨w5.heap.size+1+1+1,0,none⟩) 1 1)).more (show _≤k+40 by omega))
     clear HS HI HRB HMX T b0 b1 b2 b3 b4 b5 b6
     go_wp2_with fail
     go_meet
     case rel=>exact⟨_,_,HF,HRF,TF,HMF⟩
    ·have c:=b6.cell 4
     simp only [lqt,lqz,lqs]at c
     have q0:=HI.out.blk.cell 0
     have q1:=HI.out.blk.cell 1
     have q2:=HI.out.blk.cell 2
     have q3:=HI.out.blk.cell 3
     have q4:=HI.out.blk.cell 4
     have q5:=HI.out.blk.cell 5
     have qf:=HI.out.blk.frozen
     have ql:=HI.out.blk.lt
     simp only [lqt,lqz,lqs]at q0 q1 q2 q3 q4 q5
     have HF:=hId (RtIn.hosts HI.out (strs_row (ws:=[⟨#[97,46,98]⟩,⟨#[97,46,98]⟩]) b4) (Nat.le_refl _) (by decide +kernel))
     have HS:=Mod.setCell (S:=fun i=>i=xb) (p:=⟨xb,1,none⟩) (Mod.refl _ w4) (.inl rfl) (.slice (some ⟨w5.heap.size+1+1+1+1,0,none⟩) 2 2)
     have HRF:=hId (HRB.out.mod HS (by omega))
     have HMF:=hId (HMX.out.mod HS (by have:=HML.out;omega))
     have TF:=hId ((T.set (p:=⟨xb,1,none⟩) (by show w.heap.size≤xb;omega) (.slice (some ⟨w5.heap.size+1+1+1+1,0,none⟩) 2 2)).more (show _≤k+40 by omega))
     clear HS HI HRB HMX T b0 b1 b2 b3 b4 b5 b6
     go_wp2_with fail
     go_meet
     case rel=>exact⟨_,_,HF,HRF,TF,HMF⟩
    ·have c:=b6.cell 5
     simp only [lqt,lqz,lqs]at c
     have q0:=HI.out.blk.cell 0
     have q1:=HI.out.blk.cell 1
     have q2:=HI.out.blk.cell 2
     have q3:=HI.out.blk.cell 3
     have q4:=HI.out.blk.cell 4
     have q5:=HI.out.blk.cell 5
     have qf:=HI.out.blk.frozen
     have ql:=HI.out.blk.lt
     simp only [lqt,lqz,lqs]at q0 q1 q2 q3 q4 q5
     have HF:=hId (RtIn.hosts HI.out (strs_row (ws:=[⟨#[]⟩]) b5) (Nat.le_refl _) (by decide +kernel))
     have HS:=Mod.setCell (S:=fun i=>i=xb) (p:=⟨xb,1,none⟩) (Mod.refl _ w4) (.inl rfl) (.slice (some ⟨w5.heap.size+1+1+1+1+1,0,none⟩) 1 1)
     have HRF:=hId (HRB.out.mod HS (by omega))
     have HMF:=hId (HMX.out.mod HS (by have:=HML.out;omega))
     have TF:=hId ((T.set (p:=⟨xb,1,none⟩) (by show w.heap.size≤xb;omega) (.slice (some ⟨w5.heap.size+1+1+1+1+1,0,none⟩) 1 1)).more (show _≤k+40 by omega))
     clear HS HI HRB HMX T b0 b1 b2 b3 b4 b5 b6
     go_wp2_with fail
     go_meet
     case rel=>exact⟨_,_,HF,HRF,TF,HMF⟩
   ·go_wp2_with fail
    refine(template_any b _ _ T.inv (by omega)).mono ?_
    rintro e w6 ⟨U,rfl,hu,h5⟩
    have HUZ:Hid (U.size≤300):=hId (by omega)
    clear hu
    have HI5:=hId (HI.out.stream T.inv h5)
    have HRB5:=hId (HRB.out.mod h5.only (by omega))
    have HMX5:=hId (HMX.out.stream h5)
    have T5:=T.trans h5
    clear h5 HI HRB HMX T
    have HI:=HI5
    have HRB:=HRB5
    have HMX:=HMX5
    have T:=T5
    clear HI5 HRB5 HMX5 T5
    rename World=>w4
    have HVZ:=HUZ
    have q0:=HI.out.blk.cell 0
    have q1:=HI.out.blk.cell 1
    have q2:=HI.out.blk.cell 2
    have q3:=HI.out.blk.cell 3
    have q4:=HI.out.blk.cell 4
    have q5:=HI.out.blk.cell 5
    have qf:=HI.out.blk.frozen
    have ql:=HI.out.blk.lt
    simp only [lqt,lqz,lqs]at q0 q1 q2 q3 q4 q5
    have HF:=hId (RtIn.path HI.out HVZ.out)
    have HS:=Mod.setCell (S:=fun i=>i=xb) (p:=⟨xb,2,none⟩) (Mod.refl _ w4) (.inl rfl) (.string U)
    have HRF:=hId (HRB.out.mod HS (by omega))
    have HMF:=hId (HMX.out.mod HS (by have:=HML.out;omega))
    have TF:=hId ((T.set (p:=⟨xb,2,none⟩) (by show w.heap.size≤xb;omega) (.string U)).more (show _≤k+40 by omega))
    clear HS HI HRB HMX T
    go_wp2_with fail
    go_meet
    case rel=>exact⟨_,_,HF,HRF,TF,HMF⟩
   ·have L:=lit5 w5 9 26 (#[.string ⟨#[103,101,116]⟩]) (#[.string ⟨#[]⟩]) (#[.string ⟨#[71,69,84]⟩,.string ⟨#[71,69,84]⟩]) (#[.string ⟨#[71,32,84]⟩]) (#[.slice (some ⟨w5.heap.size,0,none⟩) 1 1,.slice (some ⟨w5.heap.size+1,0,none⟩) 1 1,.slice (some ⟨w5.heap.size+1+1,0,none⟩) 2 2,.slice (some ⟨w5.heap.size+1+1+1,0,none⟩) 1 1])
    go_wp2_with fail
    refine(next_any b _ 4 _ (T.new L.new).inv (by omega) (by omega) (by omega)).mono ?_
    rintro e w4 ⟨m,rfl,m0,m1,h4⟩
    have hwb:b<w5.heap.size:=by have:=T.only.size;omega
    have b0:=L.b0.mod h4.only (by omega)
    have b1:=L.b1.mod h4.only (by omega)
    have b2:=L.b2.mod h4.only (by omega)
    have b3:=L.b3.mod h4.only (by omega)
    have b4:=L.b4.mod h4.only (by omega)
    have HI4:=hId ((HI.out.new L.new).stream (T.new L.new).inv h4)
    have HRB4:=hId ((HRB.out.mod L.new (fun e=>e)).mod h4.only (by omega))
    have HMX4:=hId ((HMX.out.mod L.new (fun e=>e)).stream h4)
    have T4:=(T.new L.new).trans h4
    have hob:=b4.lt
    clear HI HRB HMX T L h4
    have HI:=HI4
    have HRB:=HRB4
    have HMX:=HMX4
    have T:=T4
    clear HI4 HRB4 HMX4 T4
    obtain rfl | rfl | rfl | rfl:m=0∨m=1∨m=2∨m=3:=by omega
    ·have c:=b4.cell 0
     simp only [lqt,lqz,lqs]at c
     have q0:=HI.out.blk.cell 0
     have q1:=HI.out.blk.cell 1
     have q2:=HI.out.blk.cell 2
     have q3:=HI.out.blk.cell 3
     have q4:=HI.out.blk.cell 4
     have q5:=HI.out.blk.cell 5
     have qf:=HI.out.blk.frozen
     have ql:=HI.out.blk.lt
     simp only [lqt,lqz,lqs]at q0 q1 q2 q3 q4 q5
     have HF:=hId (RtIn.methods HI.out (strs_row (ws:=[⟨#[103,101,116]⟩]) b0) (Nat.le_refl _) (by decide +kernel))
     have HS:=Mod.setCell (S:=fun i=>i=xb) (p:=⟨xb,3,none⟩) (Mod.refl _ w4) (.inl rfl) (.slice (some ⟨w5.heap.size,0,none⟩) 1 1)
     have HRF:=hId (HRB.out.mod HS (by omega))
     have HMF:=hId (HMX.out.mod HS (by have:=HML.out;omega))
     have TF:=hId ((T.set (p:=⟨xb,3,none⟩) (by show w.heap.size≤xb;omega) (.slice (some ⟨w5.heap.size,0,none⟩) 1 1)).more (show _≤k+40 by omega))
     clear HS HI HRB HMX T b0 b1 b2 b3 b4
     go_wp2_with fail
     go_meet
     case rel=>exact⟨_,_,HF,HRF,TF,HMF⟩
    ·have c:=b4.cell 1
     simp only [lqt,lqz,lqs]at c
     have q0:=HI.out.blk.cell 0
     have q1:=HI.out.blk.cell 1
     have q2:=HI.out.blk.cell 2
     have q3:=HI.out.blk.cell 3
     have q4:=HI.out.blk.cell 4
     have q5:=HI.out.blk.cell 5
     have qf:=HI.out.blk.frozen
     have ql:=HI.out.blk.lt
     simp only [lqt,lqz,lqs]at q0 q1 q2 q3 q4 q5
     have HF:=hId (RtIn.methods HI.out (strs_row (ws:=[⟨#[]⟩]) b1) (Nat.le_refl _) (by decide +kernel))
     have HS:=Mod.setCell (S:=fun i=>i=xb) (p:=⟨xb,3,none⟩) (Mod.refl _ w4) (.inl rfl) (.slice (some ⟨w5.heap.size+1,0,none⟩) 1 1)
     have HRF:=hId (HRB.out.mod HS (by omega))
     have HMF:=hId (HMX.out.mod HS (by have:=HML.out;omega))
     have TF:=hId ((T.set (p:=⟨xb,3,none⟩) (by show w.heap.size≤xb;omega) (.slice (some ⟨w5.heap.size+1,0,none⟩) 1 1)).more (show _≤k+40 by omega))
     clear HS HI HRB HMX T b0 b1 b2 b3 b4
     go_wp2_with fail
     go_meet
     case rel=>exact⟨_,_,HF,HRF,TF,HMF⟩
    ·have c:=b4.cell 2
     simp only [lqt,lqz,lqs]at c
     have q0:=HI.out.blk.cell 0
     have q1:=HI.out.blk.cell 1
     have q2:=HI.out.blk.cell 2
     have q3:=HI.out.blk.cell 3
     have q4:=HI.out.blk.cell 4
     have q5:=HI.out.blk.cell 5
     have qf:=HI.out.blk.frozen
     have ql:=HI.out.blk.lt
     simp only [lqt,lqz,lqs]at q0 q1 q2 q3 q4 q5
     have HF:=hId (RtIn.methods HI.out (strs_row (ws:=[⟨#[71,69,84]⟩,⟨#[71,69,84]⟩]) b2) (Nat.le_refl _) (by decide +kernel))
     have HS:=Mod.setCell (S:=fun i=>i=xb) (p:=⟨xb,3,none⟩) (Mod.refl _ w4) (.inl rfl) (.slice (some ⟨w5.heap.size+1+1,0,none⟩) 2 2)
     have HRF:=hId (HRB.out.mod HS (by omega))
     have HMF:=hId (HMX.out.mod HS (by have:=HML.out;omega))
     have TF:=hId ((T.set (p:=⟨xb,3,none⟩) (by show w.heap.size≤xb;omega) (.slice (some ⟨w5.heap.size+1+1,0,none⟩) 2 2)).more (show _≤k+40 by omega))
     clear HS HI HRB HMX T b0 b1 b2 b3 b4
     go_wp2_with fail
     go_meet
     case rel=>exact⟨_,_,HF,HRF,TF,HMF⟩
    ·have c:=b4.cell 3
     simp only [lqt,lqz,lqs]at c
     have q0:=HI.out.blk.cell 0
     have q1:=HI.out.blk.cell 1
     have q2:=HI.out.blk.cell 2
     have q3:=HI.out.blk.cell 3
     have q4:=HI.out.blk.cell 4
     have q5:=HI.out.blk.cell 5
     have qf:=HI.out.blk.frozen
     have ql:=HI.out.blk.lt
     simp only [lqt,lqz,lqs]at q0 q1 q2 q3 q4 q5
     have HF:=hId (RtIn.methods HI.out (strs_row (ws:=[⟨#[71,32,84]⟩]) b3) (Nat.le_refl _) (by decide +kernel))
     have HS:=Mod.setCell (S:=fun i=>i=xb) (p:=⟨xb,3,none⟩) (Mod.refl _ w4) (.inl rfl) (.slice (some ⟨w5.heap.size+1+1+1,0,none⟩) 1 1)
     have HRF:=hId (HRB.out.mod HS (by omega))
     have HMF:=hId (HMX.out.mod HS (by have:=HML.out;omega))
     have TF:=hId ((T.set (p:=⟨xb,3,none⟩) (by show w.heap.size≤xb;omega) (.slice (some ⟨w5.heap.size+1+1+1,0,none⟩) 1 1)).more (show _≤k+40 by omega))
     clear HS HI HRB HMX T b0 b1 b2 b3 b4
     go_wp2_with fail
     go_meet
     case rel=>exact⟨_,_,HF,HRF,TF,HMF⟩
   ·have L:=lit5 w5 52 27 (#[.string ⟨#[88]⟩,.string ⟨#[]⟩]) (#[.string ⟨#[]⟩,.string ⟨#[]⟩]) (#[.string ⟨#[120]⟩,.string ⟨#[32]⟩]) (#[.string ⟨#[120]⟩,.string ⟨#[49]⟩,.string ⟨#[120]⟩,.string ⟨#[49]⟩]) (#[.slice (some ⟨w5.heap.size,0,none⟩) 1 1,.slice (some ⟨w5.heap.size+1,0,none⟩) 1 1,.slice (some ⟨w5.heap.size+1+1,0,none⟩) 1 1,.slice (some ⟨w5.heap.size+1+1+1,0,none⟩) 2 2])
    go_wp2_with fail
    refine(next_any b _ 4 _ (T.new L.new).inv (by omega) (by omega) (by omega)).mono ?_
    rintro e w4 ⟨m,rfl,m0,m1,h4⟩
    have hwb:b<w5.heap.size:=by have:=T.only.size;omega
    have b0:=L.b0.mod h4.only (by omega)
    have b1:=L.b1.mod h4.only (by omega)
    have b2:=L.b2.mod h4.only (by omega)
    have b3:=L.b3.mod h4.only (by omega)
    have b4:=L.b4.mod h4.only (by omega)
    have HI4:=hId ((HI.out.new L.new).stream (T.new L.new).inv h4)
    have HRB4:=hId ((HRB.out.mod L.new (fun e=>e)).mod h4.only (by omega))
    have HMX4:=hId ((HMX.out.mod L.new (fun e=>e)).stream h4)
    have T4:=(T.new L.new).trans h4
    have hob:=b4.lt
    clear HI HRB HMX T L h4
    have HI:=HI4
    have HRB:=HRB4
    have HMX:=HMX4
    have T:=T4
    clear HI4 HRB4 HMX4 T4
    obtain rfl | rfl | rfl | rfl:m=0∨m=1∨m=2∨m=3:=by omega
    ·have c:=b4.cell 0
     simp only [lqt,lqz,lqs]at c
     have q0:=HI.out.blk.cell 0
     have q1:=HI.out.blk.cell 1
     have q2:=HI.out.blk.cell 2
     have q3:=HI.out.blk.cell 3
     have q4:=HI.out.blk.cell 4
     have q5:=HI.out.blk.cell 5
     have qf:=HI.out.blk.frozen
     have ql:=HI.out.blk.lt
     simp only [lqt,lqz,lqs]at q0 q1 q2 q3 q4 q5
     have HF:=hId (RtIn.needs HI.out (pairs_row (ps:=[(⟨#[88]⟩,⟨#[]⟩)]) b0) (Nat.le_refl _) (by decide +kernel))
     have HS:=Mod.setCell (S:=fun i=>i=xb) (p:=⟨xb,4,none⟩) (Mod.refl _ w4) (.inl rfl) (.slice (some ⟨w5.heap.size,0,none⟩) 1 1)
     have HRF:=hId (HRB.out.mod HS (by omega))
     have HMF:=hId (HMX.out.mod HS (by have:=HML.out;omega))
     have TF:=hId ((T.set (p:=⟨xb,4,none⟩) (by show w.heap.size≤xb;omega) (.slice (some ⟨w5.heap.size,0,none⟩) 1 1)).more (show _≤k+40 by omega))
     clear HS HI HRB HMX T b0 b1 b2 b3 b4
     go_wp2_with fail
     go_meet
     case rel=>exact⟨_,_,HF,HRF,TF,HMF⟩
    ·have c:=b4.cell 1
     simp only [lqt,lqz,lqs]at c
     have q0:=HI.out.blk.cell 0
     have q1:=HI.out.blk.cell 1
     have q2:=HI.out.blk.cell 2
     have q3:=HI.out.blk.cell 3
     have q4:=HI.out.blk.cell 4
     have q5:=HI.out.blk.cell 5
     have qf:=HI.out.blk.frozen
     have ql:=HI.out.blk.lt
     simp only [lqt,lqz,lqs]at q0 q1 q2 q3 q4 q5
     have HF:=hId (RtIn.needs HI.out (pairs_row (ps:=[(⟨#[]⟩,⟨#[]⟩)]) b1) (Nat.le_refl _) (by decide +kernel))
     have HS:=Mod.setCell (S:=fun i=>i=xb) (p:=⟨xb,4,none⟩) (Mod.refl _ w4) (.inl rfl) (.slice (some ⟨w5.heap.size+1,0,none⟩) 1 1)
     have HRF:=hId (HRB.out.mod HS (by omega))
     have HMF:=hId (HMX.out.mod HS (by have:=HML.out;omega))
     have TF:=hId ((T.set (p:=⟨xb,4,none⟩) (by show w.heap.size≤xb;omega) (.slice (some ⟨w5.heap.size+1,0,none⟩) 1 1)).more (show _≤k+40 by omega))
     clear HS HI HRB HMX T b0 b1 b2 b3 b4
     go_wp2_with fail
     go_meet
     case rel=>exact⟨_,_,HF,HRF,TF,HMF⟩
    ·have c:=b4.cell 2
     simp only [lqt,lqz,lqs]at c
     have q0:=HI.out.blk.cell 0
     have q1:=HI.out.blk.cell 1
     have q2:=HI.out.blk.cell 2
     have q3:=HI.out.blk.cell 3
     have q4:=HI.out.blk.cell 4
     have q5:=HI.out.blk.cell 5
     have qf:=HI.out.blk.frozen
     have ql:=HI.out.blk.lt
     simp only [lqt,lqz,lqs]at q0 q1 q2 q3 q4 q5
     have HF:=hId (RtIn.needs HI.out (pairs_row (ps:=[(⟨#[120]⟩,⟨#[32]⟩)]) b2) (Nat.le_refl _) (by decide +kernel))
     have HS:=Mod.setCell (S:=fun i=>i=xb) (p:=⟨xb,4,none⟩) (Mod.refl _ w4) (.inl rfl) (.slice (some ⟨w5.heap.size+1+1,0,none⟩) 1 1)
     have HRF:=hId (HRB.out.mod HS (by omega))
     have HMF:=hId (HMX.out.mod HS (by have:=HML.out;omega))
     have TF:=hId ((T.set (p:=⟨xb,4,none⟩) (by show w.heap.size≤xb;omega) (.slice (some ⟨w5.heap.size+1+1,0,none⟩) 1 1)).more (show _≤k+40 by omega))
     clear HS HI HRB HMX T b0 b1 b2 b3 b4
     go_wp2_with fail
     go_meet
     case rel=>exact⟨_,_,HF,HRF,TF,HMF⟩
    ·have c:=b4.cell 3
     simp only [lqt,lqz,lqs]at c
     have q0:=HI.out.blk.cell 0
     have q1:=HI.out.blk.cell 1
     have q2:=HI.out.blk.cell 2
     have q3:=HI.out.blk.cell 3
     have q4:=HI.out.blk.cell 4
     have q5:=HI.out.blk.cell 5
     have qf:=HI.out.blk.frozen
     have ql:=HI.out.blk.lt
     simp only [lqt,lqz,lqs]at q0 q1 q2 q3 q4 q5
     have HF:=hId (RtIn.needs HI.out (pairs_row (ps:=[(⟨#[120]⟩,⟨#[49]⟩),(⟨#[120]⟩,⟨#[49]⟩)]) b3) (Nat.le_refl _) (by decide +kernel))
     have HS:=Mod.setCell (S:=fun i=>i=xb) (p:=⟨xb,4,none⟩) (Mod.refl _ w4) (.inl rfl) (.slice (some ⟨w5.heap.size+1+1+1,0,none⟩) 2 2)
     have HRF:=hId (HRB.out.mod HS (by omega))
     have HMF:=hId (HMX.out.mod HS (by have:=HML.out;omega))
     have TF:=hId ((T.set (p:=⟨xb,4,none⟩) (by show w.heap.size≤xb;omega) (.slice (some ⟨w5.heap.size+1+1+1,0,none⟩) 2 2)).more (show _≤k+40 by omega))
     clear HS HI HRB HMX T b0 b1 b2 b3 b4
     go_wp2_with fail
     go_meet
     case rel=>exact⟨_,_,HF,HRF,TF,HMF⟩
   ·go_wp2_with fail
    refine(template_any b _ _ T.inv (by omega)).mono ?_
    rintro e w6 ⟨U,rfl,hu,h5⟩
    have HUZ:Hid (U.size≤300):=hId (by omega)
    clear hu
    have HI5:=hId (HI.out.stream T.inv h5)
    have HRB5:=hId (HRB.out.mod h5.only (by omega))
    have HMX5:=hId (HMX.out.stream h5)
    have T5:=T.trans h5
    clear h5 HI HRB HMX T
    have HI:=HI5
    have HRB:=HRB5
    have HMX:=HMX5
    have T:=T5
    clear HI5 HRB5 HMX5 T5
    go_wp2_with fail
    refine(some_any [⟨#[47,123,122,122,125]⟩,⟨#[47,123,105,100,42,125]⟩,⟨#[47,123,114,101,115,116,125]⟩,⟨#[120]⟩,U] b _ w6.heap.size 5 _ (T.alloc _).inv (by omega) (Blk.new _ _ _) rfl (by omega) (by omega)).mono ?_
    rintro e w4 ⟨v,rfl,hv,h4⟩
    have HVZ:Hid (v.size≤300):=hId (by
     simp only [List.mem_cons,List.not_mem_nil,or_false]at hv
     rcases hv with rfl | rfl | rfl | rfl | rfl
     all_goals first | decide | exact HUZ.out)
    have T4:=(T.alloc (.cells #[.string ⟨#[47,123,122,122,125]⟩,.string ⟨#[47,123,105,100,42,125]⟩,.string ⟨#[47,123,114,101,115,116,125]⟩,.string ⟨#[120]⟩,.string U] 9)).trans h4
    have HI4:=hId ((HI.out.new ((Mod.refl _ _).alloc (.cells #[.string ⟨#[47,123,122,122,125]⟩,.string ⟨#[47,123,105,100,42,125]⟩,.string ⟨#[47,123,114,101,115,116,125]⟩,.string ⟨#[120]⟩,.string U] 9))).stream (T.alloc _).inv h4)
    have HRB4:=hId ((HRB.out.keepA (.cells #[.string ⟨#[47,123,122,122,125]⟩,.string ⟨#[47,123,105,100,42,125]⟩,.string ⟨#[47,123,114,101,115,116,125]⟩,.string ⟨#[120]⟩,.string U] 9)).mod h4.only (by omega))
    have HMX4:=hId ((HMX.out.mod ((Mod.refl (fun _=>False) _).alloc (.cells #[.string ⟨#[47,123,122,122,125]⟩,.string ⟨#[47,123,105,100,42,125]⟩,.string ⟨#[47,123,114,101,115,116,125]⟩,.string ⟨#[120]⟩,.string U] 9)) (fun e=>e)).stream h4)
    clear HI HRB HMX T h4 hv
    have HI:=HI4
    have HRB:=HRB4
    have HMX:=HMX4
    have T:=T4
    clear HI4 HRB4 HMX4 T4
    have q0:=HI.out.blk.cell 0
    have q1:=HI.out.blk.cell 1
    have q2:=HI.out.blk.cell 2
    have q3:=HI.out.blk.cell 3
    have q4:=HI.out.blk.cell 4
    have q5:=HI.out.blk.cell 5
    have qf:=HI.out.blk.frozen
    have ql:=HI.out.blk.lt
    simp only [lqt,lqz,lqs]at q0 q1 q2 q3 q4 q5
    have HF:=hId (RtIn.dest HI.out HVZ.out)
    have HS:=Mod.setCell (S:=fun i=>i=xb) (p:=⟨xb,5,none⟩) (Mod.refl _ w4) (.inl rfl) (.string v)
    have HRF:=hId (HRB.out.mod HS (by omega))
    have HMF:=hId (HMX.out.mod HS (by have:=HML.out;omega))
    have TF:=hId ((T.set (p:=⟨xb,5,none⟩) (by show w.heap.size≤xb;omega) (.string v)).more (show _≤k+40 by omega))
    clear HS HI HRB HMX T
    go_wp2_with fail
    go_meet
    case rel=>exact⟨_,_,HF,HRF,TF,HMF⟩
 case rest=>
  rename World=>w2
  obtain⟨x,r,HI0,HRB0,T0,HMX0⟩:=hcut
  have T:=T0.out
  clear T0
  have hcP:=HI0.out.blk.cell
  have ql:=HI0.out.blk.lt
  have hcR:=HRB0.out.cell
  have hfR:=HRB0.out.frozen
  have rlt:=HRB0.out.lt
  have HAT:=hId HI0.out.at'
  have HMN:=hId HI0.out.mini
  have HTB:=hId HRB0.out.tb
  have hmF:=fun(v0 v1 v2 v3 v4 v5:Value)=>(Mod.setCell (S:=fun i=>i=rb) (p:=⟨rb,5,none⟩) (Mod.setCell (S:=fun i=>i=rb) (p:=⟨rb,4,none⟩) (Mod.setCell (S:=fun i=>i=rb) (p:=⟨rb,3,none⟩) (Mod.setCell (S:=fun i=>i=rb) (p:=⟨rb,2,none⟩) (Mod.setCell (S:=fun i=>i=rb) (p:=⟨rb,1,none⟩) (Mod.setCell (S:=fun i=>i=rb) (p:=⟨rb,0,none⟩) (Mod.refl _ w2) (.inl rfl) v0) (.inl rfl) v1) (.inl rfl) v2) (.inl rfl) v3) (.inl rfl) v4) (.inl rfl) v5)
  have HMF:=hId hmF
  have HFIN:Hid (∀ W',Mod (fun i=>i=rb) w2 W'→RtAt W' x r∧SStep b w W' (k+60)):=hId (fun W' hm=>⟨⟨HAT.out.key,HAT.out.path,HAT.out.dest,HAT.out.hosts.mod hm (fun g hg e=>hg.ne HTB.out (by decide) e),HAT.out.methods.mod hm (fun g hg e=>hg.ne HTB.out (by decide) e),HAT.out.needs.mod hm (fun g hg e=>hg.ne HTB.out (by decide) e),HAT.out.hcap,HAT.out.mcap,HAT.out.ncap⟩,⟨T.lt,T.only.step hm (fun i hi e=>by omega),(T.inv.mod hm (fun i hi e=>by omega)).more (by omega)⟩⟩)
  clear hmF HI0 HRB0 HMX0
  obtain⟨x0,x1,x2,x3,x4,x5,x6,x7,x8,x9,xa,xc⟩:=x
  go_wp2_with fail
  refine bodyPost_ret (v:=RA.val ⟨x0,x1,x2,x3,x4,x5,x6,x7,x8,x9,xa,xc⟩) (by simp [results,Tryz.results4,go_sem,hcP,hcR,hfR,ql,rlt,RA.val]) rfl ?_
  exact⟨_,r,rfl,(HFIN.out _ (HMF.out _ _ _ _ _ _)).1,HMN.out,(HFIN.out _ (HMF.out _ _ _ _ _ _)).2⟩
def PPredQ (w:World) (F:Nat) (cp:Value) (f:PartD→Bool):Prop:=
 ∀(p:PartD) wr,New w wr→Calls Tryz.prog F #[p.val,cp] wr fun e w'=>e= .returned (.bool (f p))∧New wr w'
set_option maxHeartbeats 1000000 in
theorem indexFunc_partQ (F:Nat) (cp:Value) (eg:∀ args w,(callFunc F args).run Tryz.prog w= .ok (.enter F args) w) (w:World) (A:Option Addr) (n c:Nat) (ps:List PartD) (f:PartD→Bool) (hs:PSl w A n ps) (hF:PPredQ w F cp f) (hn:n≤100000):
  Calls Tryz.prog 142 #[.slice A n c,.func (.func F) #[] #[cp]] w fun e w'=>e= .returned (.int .i64 (firstP (fun i=>(ps[i]?).any (f)) n))∧New w w':=by
 have HS:=hId hs
 have HF:=hId hF
 have HL:=hId hs.1
 obtain⟨b,hb⟩:∃ b:Nat→Bool,b=(fun i=>(ps[i]?).any (f)):=⟨_,rfl⟩
 rw [← hb]
 have HB:=hId hb
 clear hs hF hb
 go_enter Tryz.func142,Tryz.ntmps142
 go_wp2_with fail
 go_loopw [8] (fun i wr=>∃ k:Nat,k≤n∧i= .int .i64 k∧Hid (New w wr)∧Hid (∀ j,j<k→b j=false)) (fun i _=>n -(intOf i).toNat)
 case atStart=>exact⟨0,Nat.zero_le _,rfl,hId (Mod.refl _ _),hId (fun j hj=>absurd hj (by omega))⟩
 case round=>
  rename World=>wr
  obtain⟨k,hk,rfl,HM,HA⟩:=hrel
  by_cases hlt:k<n
  ·have hkx:k<ps.length:=by have:=HL.out;omega
   obtain⟨g,o,hA,htb,hc0⟩:=(HS.out.new HM.out).2 (by omega)
   have hgl:=htb.lt
   have hc:=fun q (hq:q<2)=>hc0 k hkx q hq
   have hbk:b k=f ps[k]:=by rw [HB.out];simp [hkx]
   have HBK:=hId hbk
   clear hc0 htb hbk
   have hcall:=HF.out ps[k] wr HM.out
   generalize ps[k]=y at *
   subst hA
   have hb1:(0:Int)≤k:=by omega
   have hb2:(k:Int)<n:=by omega
   obtain⟨yk,yn⟩:=y
   have b0:=hc 0 (by omega)
   have b1:=hc 1 (by omega)
   simp only [PartD.enc,Nat.add_zero,Nat.zero_add]at b0 b1
   clear hc
   simp only [PartD.val]at hcall
   generalize f ⟨yk,yn⟩=r at *
   go_wp2_with fail
   refine hcall.mono ?_
   clear hcall
   rintro e w5 ⟨rfl,m5⟩
   have HM5:=hId (HM.out.trans m5)
   clear m5
   cases r with
   | true=>
    go_wp2_with fail
    go_ret
    exact⟨ret_int (firstP_hit hlt HBK.out HA.out).symm,HM5.out⟩
   | false=>
    go_wp2_with fail
    go_roundw
    case rel=>exact⟨k+1,by omega,by go_num,HM5,hId (fun j hj=>by
     by_cases e:j=k
     ·subst e;exact HBK.out
     ·exact HA.out j (by omega))⟩
    case measure=>simp [intOf];omega
  ·obtain rfl:k=n:=by omega
   go_wp2_with fail
   go_ret
   exact⟨ret_int (firstP_none HA.out).symm,HM.out⟩
set_option maxHeartbeats 1000000 in
theorem containsFunc_partQ (F:Nat) (cp:Value) (eg:∀ args w,(callFunc F args).run Tryz.prog w= .ok (.enter F args) w) (w:World) (A:Option Addr) (n c:Nat) (ps:List PartD) (f:PartD→Bool) (hs:PSl w A n ps) (hF:PPredQ w F cp f) (hn:n≤100000):
  Calls Tryz.prog 91 #[.slice A n c,.func (.func F) #[] #[cp]] w fun e w'=>e= .returned (.bool (ps.any f))∧New w w':=by
 have hif:=indexFunc_partQ F cp eg w A n c ps f hs hF hn
 have hany:decide (0≤firstP (fun i=>(ps[i]?).any (f)) n)=ps.any f:=by
  rw [firstP_any,←hs.1]
  exact anyRange _ _
 have HA:=hId hany
 clear hany hs hF eg
 generalize firstP (fun i=>(ps[i]?).any (f)) n=r at *
 generalize ps.any f=q at *
 go_enter Tryz.func91,Tryz.ntmps91
 go_wp2_with (first |(refine hif.mono ?_;clear hif;rintro e w' ⟨rfl,hm⟩;have hm:=hId hm))
 go_ret
 exact⟨ret_bool HA.out,hm.out⟩
def otherQ (k:Int) (s:ByteArray) (q:PartD):Bool:=decide (q.kind≠1)&&(decide (q.name=s)&&decide (q.kind≠k))
theorem otherQ_any (P:List PartD) (p:PartD):P.any (otherQ p.kind p.name)=otherK P p:=rfl
set_option maxHeartbeats 1000000 in
theorem ref_topar (p:PartD) (g:Nat) (k:Int) (s:ByteArray) (w:World) (hg:Blk w g 78 #[.int .i64 k,.string s]):
  Calls Tryz.prog 104 #[p.val,.pointer (some ⟨g,0,none⟩)] w fun e w'=>e= .returned (.bool (otherQ k s p))∧New w w':=by
 obtain⟨pk,pn⟩:=p
 have hb:=hg.new2 ((Mod.refl (fun _=>False) w).alloc (.cells #[.int .i64 pk,.string pn] 78))
 have hlt:=hb.lt
 have hgl:=hg.lt
 have hc:=hb.cell 1
 have hd:=hb.cell 0
 simp only [lqt,lqz,lqs]at hc hd
 have hbq:=str_beq pn s
 have HM:Hid (New w (w.alloc (.cells #[.int .i64 pk,.string pn] 78))):=hId ((Mod.refl _ _).alloc _)
 unfold PartD.val otherQ
 simp only
 clear hb hg
 by_cases hk:pk=1
 ·subst hk
  go_enter Tryz.func104,Tryz.ntmps104
  go_wp2_with fail
  go_ret
  exact⟨rfl,HM.out⟩
 ·have hk1:((pk:Int) != 1)=true:=by simpa using hk
  rw [decide_eq_true hk,Bool.true_and]
  clear hk
  cases hr:decide (pn=s)
  ·rw [hr]at hbq
   clear hr
   go_enter Tryz.func104,Tryz.ntmps104
   go_wp2_with fail
   go_ret
   exact⟨rfl,HM.out⟩
  ·rw [hr]at hbq
   clear hr
   by_cases hj:pk=k
   ·have hj1:((pk:Int) != k)=false:=by simpa using hj
    rw [show decide (pk≠k)=false by simpa using hj]
    clear hj
    go_enter Tryz.func104,Tryz.ntmps104
    go_wp2_with fail
    go_ret
    exact⟨rfl,HM.out⟩
   ·have hj1:((pk:Int) != k)=true:=by simpa using hj
    rw [show decide (pk≠k)=true by simpa using hj]
    clear hj
    go_enter Tryz.func104,Tryz.ntmps104
    go_wp2_with fail
    go_ret
    exact⟨rfl,HM.out⟩
theorem enters_reftopar (args:Array Value) (w:World):(callFunc 104 args).run Tryz.prog w= .ok (.enter 104 args) w:=by
 go_simp
theorem enters_rf1 (args:Array Value) (w:World):(callFunc 44 args).run Tryz.prog w= .ok (.enter 44 args) w:=by
 go_simp
theorem enters_rf2 (args:Array Value) (w:World):(callFunc 45 args).run Tryz.prog w= .ok (.enter 45 args) w:=by
 go_simp
theorem call_rf1 (a b:Bool) (w:World):Calls Tryz.prog 44 #[.bool a,.bool b] w fun e w'=>e= .returned (.bool (!a))∧w=w':=by
 go_enter Tryz.func44,Tryz.ntmps44
 go_wp2_with fail
 go_ret
 exact⟨rfl,rfl⟩
theorem call_rf2 (a b:Bool) (w:World):Calls Tryz.prog 45 #[.bool a,.bool b] w fun e w'=>e= .returned (.bool b)∧w=w':=by
 go_enter Tryz.func45,Tryz.ntmps45
 go_wp2_with fail
 go_ret
 exact⟨rfl,rfl⟩
set_option maxRecDepth 100000 in
set_option maxHeartbeats 1000000 in
theorem ref_toFault (F:Nat) (isf:Bool→Bool→Bool) (why:Int) (eg:∀ args w,(callFunc F args).run Tryz.prog w= .ok (.enter F args) w) (hF:∀ a b W,Calls Tryz.prog F #[.bool a,.bool b] W fun e w'=>e= .returned (.bool (isf a b))∧W=w')
  (A1 A2:Option Addr) (n1 c1 n2 c2:Nat) (P T:List PartD) (w:World) (h1:PSl w A1 n1 P) (h2:PSl w A2 n2 T) (hn1:n1≤100000) (hn2:n2≤100000):
  Calls Tryz.prog 43 #[.slice A1 n1 c1,.slice A2 n2 c2,.func (.func F) #[] #[],.int .i64 why] w fun e w'=>e= .returned (.int .i64 (if T.any (fun p=>decide (p.kind≠1)&&isf (hasP P p.name) (otherK P p))=true then why else 0))∧New w w':=by
 have hl1:=h1.1
 have hl2:=h2.1
 have HS1:=hId h1
 have HS2:=hId h2
 have HL2:=hId hl2
 have HF:=hId hF
 clear h1 h2 hl1 hl2 hF
 obtain⟨R,hR⟩:∃ R:Int,(if T.any (fun p=>decide (p.kind≠1)&&isf (hasP P p.name) (otherK P p))=true then why else 0)=R:=⟨_,rfl⟩
 have HR0:=hId hR
 rw [hR]
 clear hR
 go_enter Tryz.func43,Tryz.ntmps43
 go_wp2_with fail
 go_loopw [14] (fun i wr=>∃ k:Nat,k≤n2∧i= .int .i64 k∧Hid ((T.take k).any (fun p=>decide (p.kind≠1)&&isf (hasP P p.name) (otherK P p))=false)∧Hid (New w wr)) (fun i _=>n2 -(intOf i).toNat)
 case atStart=>exact⟨0,Nat.zero_le _,rfl,hId rfl,hId (Mod.refl _ _)⟩
 case round=>
  rename World=>wr
  obtain⟨k,hk,rfl,HR,HM⟩:=hrel
  by_cases hlt:k<n2
  ·have hkl:k<T.length:=by have:=HL2.out;omega
   have HAS:=hId (any_step (fun p=>decide (p.kind≠1)&&isf (hasP P p.name) (otherK P p)) hkl HR.out)
   obtain⟨g,o,hA,htb,hc0⟩:=(HS2.out.new HM.out).2 (by omega)
   subst hA
   have hgl:=htb.lt
   have a0:=hc0 k hkl 0 (by omega)
   have a1:=hc0 k hkl 1 (by omega)
   simp only [PartD.enc,Nat.add_zero]at a0 a1
   clear htb hc0
   generalize T[k]=x at *
   obtain⟨xk,xn⟩:=x
   simp only at a0 a1 HAS
   have hb2:(0:Int)≤k:=by omega
   have hb3:(k:Int)<n2:=by omega
   have bp:=Blk.new wr 78 #[.int .i64 xk,.string xn]
   have mp:New wr (wr.alloc (.cells #[.int .i64 xk,.string xn] 78)):=(Mod.refl _ _).alloc _
   have p0:=bp.cell 0
   have pl:=bp.lt
   simp only [lqt,lqz,lqs]at p0
   have HMP:=hId (HM.out.trans mp)
   have HBP:=hId bp
   clear bp mp
   go_upto_region 4 with(fail)
   clear a0 a1 hgl
   generalize wr.alloc (.cells #[.int .i64 xk,.string xn] 78)=w1 at *
   generalize wr.heap.size=pb at *
   by_cases hxk:xk=1
   ·have hk1:(xk == 1)=true:=by simpa using hxk
    have HN:=hId (HAS.out.2 (by simp [hxk]))
    clear hxk
    go_wp2_with fail
    exact⟨⟨k+1,by omega,by go_num,HN,HMP⟩,by simp [intOf];omega⟩
   ·have hk1:(xk == 1)=false:=by simpa using hxk
    have hcf:=containsFunc_partQ 104 (.pointer (some ⟨pb,0,none⟩)) enters_reftopar w1 A1 n1 c1 P (otherQ xk xn) (HS1.out.new HMP.out) (fun p wq hw=>ref_topar p pb xk xn wq (HBP.out.new2 hw)) hn1
    have HOT:=hId (otherQ_any P ⟨xk,xn⟩)
    rw [otherQ_any P ⟨xk,xn⟩]at hcf
    go_wp2_with fail
    clear p0 pl
    refine hcf.mono ?_
    clear hcf
    rintro e w2 ⟨rfl,m2⟩
    have HM2:=hId (HMP.out.trans m2)
    have bp2:=HBP.out.new2 m2
    have p1:=bp2.cell 1
    have pl:=bp2.lt
    simp only [lqt,lqz,lqs]at p1
    clear bp2 m2
    have hhp:=ref_hasParam A1 n1 c1 P xn w2 (HS1.out.new HM2.out) hn1
    have hdk:decide (xk≠1)=true:=by simpa using hxk
    rw [hdk,Bool.true_and]at HAS
    clear hxk hdk HOT
    generalize otherK P ⟨xk,xn⟩=ok at *
    generalize hasP P xn=hp at *
    go_wp2_with fail
    refine hhp.mono ?_
    clear hhp
    rintro e w3 ⟨rfl,m3⟩
    have HM3:=hId (HM2.out.trans m3)
    have hq:=HF.out hp ok w3
    clear m3 p1 pl
    go_wp2_with fail
    refine hq.mono ?_
    clear hq
    rintro e w4 ⟨rfl,rfl⟩
    generalize isf hp ok=ans at *
    cases ans
    ·have HN:=hId (HAS.out.2 rfl)
     go_wp2_with fail
     exact⟨⟨k+1,by omega,by go_num,HN,HM3⟩,by simp [intOf];omega⟩
    ·have HE:Hid (R=why):=hId (by rw [← HR0.out,if_pos (HAS.out.1 rfl)])
     go_wp2_with fail
     go_ret
     exact⟨ret_int HE.out.symm,HM3.out⟩
  ·obtain rfl:n2=k:=by omega
   have HE:Hid (R=0):=hId (by
    have h:=HR.out
    rw [← HL2.out,List.take_length]at h
    rw [← HR0.out,h]
    rfl)
   go_wp2_with fail
   go_ret
   exact⟨ret_int HE.out.symm,HM.out⟩
end Go.Proofs.YtnlloaimplgjnaaGreatDoor
