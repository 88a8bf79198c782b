/- Stream.RightRoute: a route of modest size. Conditions: those of the stream; the library's variable on searching is an int. -/
import Derived.Test.YtnlloaimplgjnaaGreatDoorBuildGrp
import Derived.Test.YtnlloaimplgjnaaGreatDoorTpl2Grp
namespace Go.Proofs.YtnlloaimplgjnaaGreatDoor
open Go.RowKit
set_option linter.unusedVariables false
set_option linter.unusedSimpArgs false
theorem contains_any (s sub:ByteArray) (b:Nat) (w:World) (hs:s.size≤1000) (hx:MaxB b w):Calls Tryz.prog 57 #[.string s,.string sub] w fun e w'=>∃ q:Bool,e= .returned (.bool q)∧w=w':=by
 obtain⟨m,hm⟩:=hx.1
 refine(Tryz.strings_Contains s sub m w (by omega) hm).mono ?_
 rintro e w' ⟨rfl,rfl⟩
 exact⟨_,rfl,rfl⟩
set_option maxRecDepth 100000 in
set_option maxHeartbeats 1000000 in
theorem rightRoute_any (key:ByteArray) (b k:Nat) (w:World) (hs:SInv b w k) (hk:k<4611686018426000000) (hx:MaxB b w) (hks:key.size≤10):
  Calls Tryz.prog 17 #[.pointer (some ⟨b,0,none⟩),.string key] w (RRt b w (k+20)):=by
 have hbl:=hs.lt
 have HML0:Hid (0<w.heap.size):=hId hx.1.lt
 have hz0:(w.alloc (.cells #[.string ⟨#[]⟩,.slice none 0 0,.string ⟨#[]⟩,.slice none 0 0,.slice none 0 0,.string ⟨#[]⟩] 29)).heap.size=w.heap.size+1:=by simp
 have hR:=Blk.new w 29 #[.string ⟨#[]⟩,.slice none 0 0,.string ⟨#[]⟩,.slice none 0 0,.slice none 0 0,.string ⟨#[]⟩]
 have T0:=(SStep.refl hs).alloc (.cells #[.string ⟨#[]⟩,.slice none 0 0,.string ⟨#[]⟩,.slice none 0 0,.slice none 0 0,.string ⟨#[]⟩] 29)
 go_enter Tryz.func17,Tryz.ntmps17
 go_upto_region 1 with fail
 generalize w.alloc (.cells #[.string ⟨#[]⟩,.slice none 0 0,.string ⟨#[]⟩,.slice none 0 0,.slice none 0 0,.string ⟨#[]⟩] 29)=w0 at *
 generalize hrb:w.heap.size=rb at *
 go_wp2_with fail
 refine(some_any [⟨#[47,97]⟩,⟨#[47,97]⟩,⟨#[47,97,47,98]⟩,⟨#[47,97,47,123,105,100,125]⟩,⟨#[47,123,105,100,125]⟩,⟨#[47,97,47,123,105,100,125,47,98]⟩,⟨#[47,123,114,101,115,116,42,125]⟩,⟨#[47,97,47,123,114,101,115,116,42,125]⟩,⟨#[47]⟩,⟨#[47,97,47]⟩] b k (rb+1) 10 _ (T0.alloc _).inv (by omega) (Blk.new' _ _ hz0) rfl (by omega) (by omega)).mono ?_
 rintro e w1 ⟨pa,rfl,hpa,h1⟩
 have HPA:Hid (pa.size≤300):=hId (by
  simp only [List.mem_cons,List.not_mem_nil,or_false]at hpa
  rcases hpa with rfl | rfl | rfl | rfl | rfl | rfl | rfl | rfl | rfl | rfl
  all_goals decide)
 have T1:=(T0.alloc (.cells #[.string ⟨#[47,97]⟩,.string ⟨#[47,97]⟩,.string ⟨#[47,97,47,98]⟩,.string ⟨#[47,97,47,123,105,100,125]⟩,.string ⟨#[47,123,105,100,125]⟩,.string ⟨#[47,97,47,123,105,100,125,47,98]⟩,.string ⟨#[47,123,114,101,115,116,42,125]⟩,.string ⟨#[47,97,47,123,114,101,115,116,42,125]⟩,.string ⟨#[47]⟩,.string ⟨#[47,97,47]⟩] 9)).trans h1
 have HRB1:=hId ((hR.keepA (.cells #[.string ⟨#[47,97]⟩,.string ⟨#[47,97]⟩,.string ⟨#[47,97,47,98]⟩,.string ⟨#[47,97,47,123,105,100,125]⟩,.string ⟨#[47,123,105,100,125]⟩,.string ⟨#[47,97,47,123,105,100,125,47,98]⟩,.string ⟨#[47,123,114,101,115,116,42,125]⟩,.string ⟨#[47,97,47,123,114,101,115,116,42,125]⟩,.string ⟨#[47]⟩,.string ⟨#[47,97,47]⟩] 9)).mod h1.only (by omega))
 have HMX1:=hId (hx.stream T1)
 clear h1 hpa hR hx
 go_upto_region 2 with fail
 have hbx:=Blk.new w1 29 #[.string key,.slice none 0 0,.string pa,.slice none 0 0,.slice none 0 0,.string ⟨#[]⟩]
 have T2:=T1.alloc (.cells #[.string key,.slice none 0 0,.string pa,.slice none 0 0,.slice none 0 0,.string ⟨#[]⟩] 29)
 have HI0:Hid (RtIn (w1.alloc (.cells #[.string key,.slice none 0 0,.string pa,.slice none 0 0,.slice none 0 0,.string ⟨#[]⟩] 29)) w1.heap.size ⟨key,none,0,0,pa,none,0,0,none,0,0,⟨#[]⟩⟩ ⟨key,[],pa,[],[],⟨#[]⟩⟩):=hId ⟨hbx,⟨rfl,rfl,rfl,Sl.nil,Sl.nil,Sl.nil,Nat.le_refl _,Nat.le_refl _,Nat.le_refl _⟩,⟨hks,HPA.out,Nat.zero_le _,by simp,by simp,by simp⟩⟩
 have HRB0:=hId (HRB1.out.keepA (.cells #[.string key,.slice none 0 0,.string pa,.slice none 0 0,.slice none 0 0,.string ⟨#[]⟩] 29))
 have HML:Hid (0<rb):=HML0
 have HMX0:Hid (MaxB b (w1.alloc (.cells #[.string key,.slice none 0 0,.string pa,.slice none 0 0,.slice none 0 0,.string ⟨#[]⟩] 29))):=hId (HMX1.out.stream ((SStep.refl T1.inv).alloc _))
 have hxb:rb<w1.heap.size:=HRB1.out.lt
 have T:=T2.more (show k+1≤k+2 by omega)
 clear hbx T1 T2 HPA HRB1 HMX1 hs T0 hz0
 generalize w1.alloc (.cells #[.string key,.slice none 0 0,.string pa,.slice none 0 0,.slice none 0 0,.string ⟨#[]⟩] 29)=w2 at *
 generalize w1.heap.size=xb at *
 have hbxb:b<xb:=by omega
 go_upto_if 12 with(first |(refine (flip_any b _ 2 _ T.inv (by omega) (by omega) (by omega)).mono ?_;rintro e w3 ⟨q,rfl,h3⟩))
 have HI:=hId (HI0.out.stream T.inv h3)
 have HRB:=hId (HRB0.out.mod h3.only (by omega))
 have HMX:=hId (HMX0.out.stream h3)
 have T3:=T.trans h3
 clear h3 HI0 HRB0 HMX0 T
 have T:=T3
 clear T3
 go_cut [] (fun wx=>∃ x r,Hid (RtIn wx xb x r)∧Hid (Blk wx rb 29 #[.string ⟨#[]⟩,.slice none 0 0,.string ⟨#[]⟩,.slice none 0 0,.slice none 0 0,.string ⟨#[]⟩])∧Hid (SStep b w wx (k+8))∧Hid (MaxB b wx))
 case first=>
  cases q
  ·go_wp2_with fail
   go_meet
   case rel=>exact⟨_,_,HI,HRB,hId (T.more (by omega)),HMX⟩
  ·have L:=lit5 w3 9 26 (#[.string ⟨#[97,46,98]⟩]) (#[.string ⟨#[42,46,98]⟩]) (#[.string ⟨#[42,46,97,46,98]⟩,.string ⟨#[99,46,100,58,56,48,56,48]⟩]) (#[.string ⟨#[120,46,97,46,98]⟩]) (#[.slice (some ⟨w3.heap.size,0,none⟩) 1 1,.slice (some ⟨w3.heap.size+1,0,none⟩) 1 1,.slice (some ⟨w3.heap.size+1+1,0,none⟩) 2 2,.slice (some ⟨w3.heap.size+1+1+1,0,none⟩) 1 1])
   go_wp2_with fail
   refine(next_any b _ 4 _ (T.new L.new).inv (by omega) (by omega) (by omega)).mono ?_
   rintro e w4 ⟨m,rfl,m0,m1,h4⟩
   have hwb:b<w3.heap.size:=by have:=T.only.size;omega
   have b0:=L.b0.mod h4.only (by omega)
   have b1:=L.b1.mod h4.only (by omega)
   have b2:=L.b2.mod h4.only (by omega)
   have b3:=L.b3.mod h4.only (by omega)
   have b4:=L.b4.mod h4.only (by omega)
   have HI4:=hId ((HI.out.new L.new).stream (T.new L.new).inv h4)
   have HRB4:=hId ((HRB.out.mod L.new (fun e=>e)).mod h4.only (by omega))
   have HMX4:=hId ((HMX.out.mod L.new (fun e=>e)).stream h4)
   have T4:=(T.new L.new).trans h4
   have hob:=b4.lt
   clear HI HRB HMX T L h4
   have HI:=HI4
   have HRB:=HRB4
   have HMX:=HMX4
   have T:=T4
   clear HI4 HRB4 HMX4 T4
   obtain rfl | rfl | rfl | rfl:m=0∨m=1∨m=2∨m=3:=by omega
   ·have c:=b4.cell 0
    simp only [lqt,lqz,lqs]at c
    have q0:=HI.out.blk.cell 0
    have q1:=HI.out.blk.cell 1
    have q2:=HI.out.blk.cell 2
    have q3:=HI.out.blk.cell 3
    have q4:=HI.out.blk.cell 4
    have q5:=HI.out.blk.cell 5
    have qf:=HI.out.blk.frozen
    have ql:=HI.out.blk.lt
    simp only [lqt,lqz,lqs]at q0 q1 q2 q3 q4 q5
    have HF:=hId (RtIn.hosts HI.out (strs_row (ws:=[⟨#[97,46,98]⟩]) b0) (Nat.le_refl _) (by decide +kernel))
    have HS:=Mod.setCell (S:=fun i=>i=xb) (p:=⟨xb,1,none⟩) (Mod.refl _ w4) (.inl rfl) (.slice (some ⟨w3.heap.size,0,none⟩) 1 1)
    have HRF:=hId (HRB.out.mod HS (by omega))
    have HMF:=hId (HMX.out.mod HS (by have:=HML.out;omega))
    have TF:=hId ((T.set (p:=⟨xb,1,none⟩) (by show w.heap.size≤xb;omega) (.slice (some ⟨w3.heap.size,0,none⟩) 1 1)).more (show _≤k+8 by omega))
    clear HS HI HRB HMX T b0 b1 b2 b3 b4
    go_wp2_with fail
    go_meet
    case rel=>exact⟨_,_,HF,HRF,TF,HMF⟩
   ·have c:=b4.cell 1
    simp only [lqt,lqz,lqs]at c
    have q0:=HI.out.blk.cell 0
    have q1:=HI.out.blk.cell 1
    have q2:=HI.out.blk.cell 2
    have q3:=HI.out.blk.cell 3
    have q4:=HI.out.blk.cell 4
    have q5:=HI.out.blk.cell 5
    have qf:=HI.out.blk.frozen
    have ql:=HI.out.blk.lt
    simp only [lqt,lqz,lqs]at q0 q1 q2 q3 q4 q5
    have HF:=hId (RtIn.hosts HI.out (strs_row (ws:=[⟨#[42,46,98]⟩]) b1) (Nat.le_refl _) (by decide +kernel))
    have HS:=Mod.setCell (S:=fun i=>i=xb) (p:=⟨xb,1,none⟩) (Mod.refl _ w4) (.inl rfl) (.slice (some ⟨w3.heap.size+1,0,none⟩) 1 1)
    have HRF:=hId (HRB.out.mod HS (by omega))
    have HMF:=hId (HMX.out.mod HS (by have:=HML.out;omega))
    have TF:=hId ((T.set (p:=⟨xb,1,none⟩) (by show w.heap.size≤xb;omega) (.slice (some ⟨w3.heap.size+1,0,none⟩) 1 1)).more (show _≤k+8 by omega))
    clear HS HI HRB HMX T b0 b1 b2 b3 b4
    go_wp2_with fail
    go_meet
    case rel=>exact⟨_,_,HF,HRF,TF,HMF⟩
   ·have c:=b4.cell 2
    simp only [lqt,lqz,lqs]at c
    have q0:=HI.out.blk.cell 0
    have q1:=HI.out.blk.cell 1
    have q2:=HI.out.blk.cell 2
    have q3:=HI.out.blk.cell 3
    have q4:=HI.out.blk.cell 4
    have q5:=HI.out.blk.cell 5
    have qf:=HI.out.blk.frozen
    have ql:=HI.out.blk.lt
    simp only [lqt,lqz,lqs]at q0 q1 q2 q3 q4 q5
    have HF:=hId (RtIn.hosts HI.out (strs_row (ws:=[⟨#[42,46,97,46,98]⟩,⟨#[99,46,100,58,56,48,56,48]⟩]) b2) (Nat.le_refl _) (by decide +kernel))
    have HS:=Mod.setCell (S:=fun i=>i=xb) (p:=⟨xb,1,none⟩) (Mod.refl _ w4) (.inl rfl) (.slice (some ⟨w3.heap.size+1+1,0,none⟩) 2 2)
    have HRF:=hId (HRB.out.mod HS (by omega))
    have HMF:=hId (HMX.out.mod HS (by have:=HML.out;omega))
    have TF:=hId ((T.set (p:=⟨xb,1,none⟩) (by show w.heap.size≤xb;omega) (.slice (some ⟨w3.heap.size+1+1,0,none⟩) 2 2)).more (show _≤k+8 by omega))
    clear HS HI HRB HMX T b0 b1 b2 b3 b4
    go_wp2_with fail
    go_meet
    case rel=>exact⟨_,_,HF,HRF,TF,HMF⟩
   ·have c:=b4.cell 3
    simp only [lqt,lqz,lqs]at c
    have q0:=HI.out.blk.cell 0
    have q1:=HI.out.blk.cell 1
    have q2:=HI.out.blk.cell 2
    have q3:=HI.out.blk.cell 3
    have q4:=HI.out.blk.cell 4
    have q5:=HI.out.blk.cell 5
    have qf:=HI.out.blk.frozen
    have ql:=HI.out.blk.lt
    simp only [lqt,lqz,lqs]at q0 q1 q2 q3 q4 q5
    have HF:=hId (RtIn.hosts HI.out (strs_row (ws:=[⟨#[120,46,97,46,98]⟩]) b3) (Nat.le_refl _) (by decide +kernel))
    have HS:=Mod.setCell (S:=fun i=>i=xb) (p:=⟨xb,1,none⟩) (Mod.refl _ w4) (.inl rfl) (.slice (some ⟨w3.heap.size+1+1+1,0,none⟩) 1 1)
    have HRF:=hId (HRB.out.mod HS (by omega))
    have HMF:=hId (HMX.out.mod HS (by have:=HML.out;omega))
    have TF:=hId ((T.set (p:=⟨xb,1,none⟩) (by show w.heap.size≤xb;omega) (.slice (some ⟨w3.heap.size+1+1+1,0,none⟩) 1 1)).more (show _≤k+8 by omega))
    clear HS HI HRB HMX T b0 b1 b2 b3 b4
    go_wp2_with fail
    go_meet
    case rel=>exact⟨_,_,HF,HRF,TF,HMF⟩
 case rest=>
  rename World=>w2
  obtain⟨x,r,HI0,HRB0,T0,HMX0⟩:=hcut
  have T:=T0.out
  clear T0
  go_upto_if 24 with(first |(refine (flip_any b _ 3 _ T.inv (by omega) (by omega) (by omega)).mono ?_;rintro e w3 ⟨q,rfl,h3⟩))
  have HI:=hId (HI0.out.stream T.inv h3)
  have HRB:=hId (HRB0.out.mod h3.only (by omega))
  have HMX:=hId (HMX0.out.stream h3)
  have T3:=T.trans h3
  clear h3 HI0 HRB0 HMX0 T
  have T:=T3
  clear T3
  go_cut [] (fun wx=>∃ x r,Hid (RtIn wx xb x r)∧Hid (Blk wx rb 29 #[.string ⟨#[]⟩,.slice none 0 0,.string ⟨#[]⟩,.slice none 0 0,.slice none 0 0,.string ⟨#[]⟩])∧Hid (SStep b w wx (k+11))∧Hid (MaxB b wx))
  case first=>
   cases q
   ·go_wp2_with fail
    go_meet
    case rel=>exact⟨_,_,HI,HRB,hId (T.more (by omega)),HMX⟩
   ·have L:=lit4 w3 9 26 (#[.string ⟨#[71,69,84]⟩]) (#[.string ⟨#[71,69,84]⟩,.string ⟨#[80,79,83,84]⟩]) (#[.string ⟨#[80,85,84]⟩]) (#[.slice (some ⟨w3.heap.size,0,none⟩) 1 1,.slice (some ⟨w3.heap.size+1,0,none⟩) 2 2,.slice (some ⟨w3.heap.size+1+1,0,none⟩) 1 1])
    go_wp2_with fail
    refine(next_any b _ 3 _ (T.new L.new).inv (by omega) (by omega) (by omega)).mono ?_
    rintro e w4 ⟨m,rfl,m0,m1,h4⟩
    have hwb:b<w3.heap.size:=by have:=T.only.size;omega
    have b0:=L.b0.mod h4.only (by omega)
    have b1:=L.b1.mod h4.only (by omega)
    have b2:=L.b2.mod h4.only (by omega)
    have b3:=L.b3.mod h4.only (by omega)
    have HI4:=hId ((HI.out.new L.new).stream (T.new L.new).inv h4)
    have HRB4:=hId ((HRB.out.mod L.new (fun e=>e)).mod h4.only (by omega))
    have HMX4:=hId ((HMX.out.mod L.new (fun e=>e)).stream h4)
    have T4:=(T.new L.new).trans h4
    have hob:=b3.lt
    clear HI HRB HMX T L h4
    have HI:=HI4
    have HRB:=HRB4
    have HMX:=HMX4
    have T:=T4
    clear HI4 HRB4 HMX4 T4
    obtain rfl | rfl | rfl:m=0∨m=1∨m=2:=by omega
    ·have c:=b3.cell 0
     simp only [lqt,lqz,lqs]at c
     have q0:=HI.out.blk.cell 0
     have q1:=HI.out.blk.cell 1
     have q2:=HI.out.blk.cell 2
     have q3:=HI.out.blk.cell 3
     have q4:=HI.out.blk.cell 4
     have q5:=HI.out.blk.cell 5
     have qf:=HI.out.blk.frozen
     have ql:=HI.out.blk.lt
     simp only [lqt,lqz,lqs]at q0 q1 q2 q3 q4 q5
     have HF:=hId (RtIn.methods HI.out (strs_row (ws:=[⟨#[71,69,84]⟩]) b0) (Nat.le_refl _) (by decide +kernel))
     have HS:=Mod.setCell (S:=fun i=>i=xb) (p:=⟨xb,3,none⟩) (Mod.refl _ w4) (.inl rfl) (.slice (some ⟨w3.heap.size,0,none⟩) 1 1)
     have HRF:=hId (HRB.out.mod HS (by omega))
     have HMF:=hId (HMX.out.mod HS (by have:=HML.out;omega))
     have TF:=hId ((T.set (p:=⟨xb,3,none⟩) (by show w.heap.size≤xb;omega) (.slice (some ⟨w3.heap.size,0,none⟩) 1 1)).more (show _≤k+11 by omega))
     clear HS HI HRB HMX T b0 b1 b2 b3
     go_wp2_with fail
     go_meet
     case rel=>exact⟨_,_,HF,HRF,TF,HMF⟩
    ·have c:=b3.cell 1
     simp only [lqt,lqz,lqs]at c
     have q0:=HI.out.blk.cell 0
     have q1:=HI.out.blk.cell 1
     have q2:=HI.out.blk.cell 2
     have q3:=HI.out.blk.cell 3
     have q4:=HI.out.blk.cell 4
     have q5:=HI.out.blk.cell 5
     have qf:=HI.out.blk.frozen
     have ql:=HI.out.blk.lt
     simp only [lqt,lqz,lqs]at q0 q1 q2 q3 q4 q5
     have HF:=hId (RtIn.methods HI.out (strs_row (ws:=[⟨#[71,69,84]⟩,⟨#[80,79,83,84]⟩]) b1) (Nat.le_refl _) (by decide +kernel))
     have HS:=Mod.setCell (S:=fun i=>i=xb) (p:=⟨xb,3,none⟩) (Mod.refl _ w4) (.inl rfl) (.slice (some ⟨w3.heap.size+1,0,none⟩) 2 2)
     have HRF:=hId (HRB.out.mod HS (by omega))
     have HMF:=hId (HMX.out.mod HS (by have:=HML.out;omega))
     have TF:=hId ((T.set (p:=⟨xb,3,none⟩) (by show w.heap.size≤xb;omega) (.slice (some ⟨w3.heap.size+1,0,none⟩) 2 2)).more (show _≤k+11 by omega))
     clear HS HI HRB HMX T b0 b1 b2 b3
     go_wp2_with fail
     go_meet
     case rel=>exact⟨_,_,HF,HRF,TF,HMF⟩
    ·have c:=b3.cell 2
     simp only [lqt,lqz,lqs]at c
     have q0:=HI.out.blk.cell 0
     have q1:=HI.out.blk.cell 1
     have q2:=HI.out.blk.cell 2
     have q3:=HI.out.blk.cell 3
     have q4:=HI.out.blk.cell 4
     have q5:=HI.out.blk.cell 5
     have qf:=HI.out.blk.frozen
     have ql:=HI.out.blk.lt
     simp only [lqt,lqz,lqs]at q0 q1 q2 q3 q4 q5
     have HF:=hId (RtIn.methods HI.out (strs_row (ws:=[⟨#[80,85,84]⟩]) b2) (Nat.le_refl _) (by decide +kernel))
     have HS:=Mod.setCell (S:=fun i=>i=xb) (p:=⟨xb,3,none⟩) (Mod.refl _ w4) (.inl rfl) (.slice (some ⟨w3.heap.size+1+1,0,none⟩) 1 1)
     have HRF:=hId (HRB.out.mod HS (by omega))
     have HMF:=hId (HMX.out.mod HS (by have:=HML.out;omega))
     have TF:=hId ((T.set (p:=⟨xb,3,none⟩) (by show w.heap.size≤xb;omega) (.slice (some ⟨w3.heap.size+1+1,0,none⟩) 1 1)).more (show _≤k+11 by omega))
     clear HS HI HRB HMX T b0 b1 b2 b3
     go_wp2_with fail
     go_meet
     case rel=>exact⟨_,_,HF,HRF,TF,HMF⟩
  case rest=>
   rename World=>w2
   obtain⟨x,r,HI0,HRB0,T0,HMX0⟩:=hcut
   have T:=T0.out
   clear T0
   go_upto_if 35 with(first |(refine (flip_any b _ 4 _ T.inv (by omega) (by omega) (by omega)).mono ?_;rintro e w3 ⟨q,rfl,h3⟩))
   have HI:=hId (HI0.out.stream T.inv h3)
   have HRB:=hId (HRB0.out.mod h3.only (by omega))
   have HMX:=hId (HMX0.out.stream h3)
   have T3:=T.trans h3
   clear h3 HI0 HRB0 HMX0 T
   have T:=T3
   clear T3
   go_cut [] (fun wx=>∃ x r,Hid (RtIn wx xb x r)∧Hid (Blk wx rb 29 #[.string ⟨#[]⟩,.slice none 0 0,.string ⟨#[]⟩,.slice none 0 0,.slice none 0 0,.string ⟨#[]⟩])∧Hid (SStep b w wx (k+14))∧Hid (MaxB b wx))
   case first=>
    cases q
    ·go_wp2_with fail
     go_meet
     case rel=>exact⟨_,_,HI,HRB,hId (T.more (by omega)),HMX⟩
    ·have L:=lit4 w3 52 27 (#[.string ⟨#[120,45,111,110,101]⟩,.string ⟨#[49]⟩]) (#[.string ⟨#[120,45,111,110,101]⟩,.string ⟨#[42]⟩]) (#[.string ⟨#[120,45,111,110,101]⟩,.string ⟨#[49]⟩,.string ⟨#[120,45,116,119,111]⟩,.string ⟨#[]⟩]) (#[.slice (some ⟨w3.heap.size,0,none⟩) 1 1,.slice (some ⟨w3.heap.size+1,0,none⟩) 1 1,.slice (some ⟨w3.heap.size+1+1,0,none⟩) 2 2])
     go_wp2_with fail
     refine(next_any b _ 3 _ (T.new L.new).inv (by omega) (by omega) (by omega)).mono ?_
     rintro e w4 ⟨m,rfl,m0,m1,h4⟩
     have hwb:b<w3.heap.size:=by have:=T.only.size;omega
     have b0:=L.b0.mod h4.only (by omega)
     have b1:=L.b1.mod h4.only (by omega)
     have b2:=L.b2.mod h4.only (by omega)
     have b3:=L.b3.mod h4.only (by omega)
     have HI4:=hId ((HI.out.new L.new).stream (T.new L.new).inv h4)
     have HRB4:=hId ((HRB.out.mod L.new (fun e=>e)).mod h4.only (by omega))
     have HMX4:=hId ((HMX.out.mod L.new (fun e=>e)).stream h4)
     have T4:=(T.new L.new).trans h4
     have hob:=b3.lt
     clear HI HRB HMX T L h4
     have HI:=HI4
     have HRB:=HRB4
     have HMX:=HMX4
     have T:=T4
     clear HI4 HRB4 HMX4 T4
     obtain rfl | rfl | rfl:m=0∨m=1∨m=2:=by omega
     ·have c:=b3.cell 0
      simp only [lqt,lqz,lqs]at c
      have q0:=HI.out.blk.cell 0
      have q1:=HI.out.blk.cell 1
      have q2:=HI.out.blk.cell 2
      have q3:=HI.out.blk.cell 3
      have q4:=HI.out.blk.cell 4
      have q5:=HI.out.blk.cell 5
      have qf:=HI.out.blk.frozen
      have ql:=HI.out.blk.lt
      simp only [lqt,lqz,lqs]at q0 q1 q2 q3 q4 q5
      have HF:=hId (RtIn.needs HI.out (pairs_row (ps:=[(⟨#[120,45,111,110,101]⟩,⟨#[49]⟩)]) b0) (Nat.le_refl _) (by decide +kernel))
      have HS:=Mod.setCell (S:=fun i=>i=xb) (p:=⟨xb,4,none⟩) (Mod.refl _ w4) (.inl rfl) (.slice (some ⟨w3.heap.size,0,none⟩) 1 1)
      have HRF:=hId (HRB.out.mod HS (by omega))
      have HMF:=hId (HMX.out.mod HS (by have:=HML.out;omega))
      have TF:=hId ((T.set (p:=⟨xb,4,none⟩) (by show w.heap.size≤xb;omega) (.slice (some ⟨w3.heap.size,0,none⟩) 1 1)).more (show _≤k+14 by omega))
      clear HS HI HRB HMX T b0 b1 b2 b3
      go_wp2_with fail
      go_meet
      case rel=>exact⟨_,_,HF,HRF,TF,HMF⟩
     ·have c:=b3.cell 1
      simp only [lqt,lqz,lqs]at c
      have q0:=HI.out.blk.cell 0
      have q1:=HI.out.blk.cell 1
      have q2:=HI.out.blk.cell 2
      have q3:=HI.out.blk.cell 3
      have q4:=HI.out.blk.cell 4
      have q5:=HI.out.blk.cell 5
      have qf:=HI.out.blk.frozen
      have ql:=HI.out.blk.lt
      simp only [lqt,lqz,lqs]at q0 q1 q2 q3 q4 q5
      have HF:=hId (RtIn.needs HI.out (pairs_row (ps:=[(⟨#[120,45,111,110,101]⟩,⟨#[42]⟩)]) b1) (Nat.le_refl _) (by decide +kernel))
      have HS:=Mod.setCell (S:=fun i=>i=xb) (p:=⟨xb,4,none⟩) (Mod.refl _ w4) (.inl rfl) (.slice (some ⟨w3.heap.size+1,0,none⟩) 1 1)
      have HRF:=hId (HRB.out.mod HS (by omega))
      have HMF:=hId (HMX.out.mod HS (by have:=HML.out;omega))
      have TF:=hId ((T.set (p:=⟨xb,4,none⟩) (by show w.heap.size≤xb;omega) (.slice (some ⟨w3.heap.size+1,0,none⟩) 1 1)).more (show _≤k+14 by omega))
      clear HS HI HRB HMX T b0 b1 b2 b3
      go_wp2_with fail
      go_meet
      case rel=>exact⟨_,_,HF,HRF,TF,HMF⟩
     ·have c:=b3.cell 2
      simp only [lqt,lqz,lqs]at c
      have q0:=HI.out.blk.cell 0
      have q1:=HI.out.blk.cell 1
      have q2:=HI.out.blk.cell 2
      have q3:=HI.out.blk.cell 3
      have q4:=HI.out.blk.cell 4
      have q5:=HI.out.blk.cell 5
      have qf:=HI.out.blk.frozen
      have ql:=HI.out.blk.lt
      simp only [lqt,lqz,lqs]at q0 q1 q2 q3 q4 q5
      have HF:=hId (RtIn.needs HI.out (pairs_row (ps:=[(⟨#[120,45,111,110,101]⟩,⟨#[49]⟩),(⟨#[120,45,116,119,111]⟩,⟨#[]⟩)]) b2) (Nat.le_refl _) (by decide +kernel))
      have HS:=Mod.setCell (S:=fun i=>i=xb) (p:=⟨xb,4,none⟩) (Mod.refl _ w4) (.inl rfl) (.slice (some ⟨w3.heap.size+1+1,0,none⟩) 2 2)
      have HRF:=hId (HRB.out.mod HS (by omega))
      have HMF:=hId (HMX.out.mod HS (by have:=HML.out;omega))
      have TF:=hId ((T.set (p:=⟨xb,4,none⟩) (by show w.heap.size≤xb;omega) (.slice (some ⟨w3.heap.size+1+1,0,none⟩) 2 2)).more (show _≤k+14 by omega))
      clear HS HI HRB HMX T b0 b1 b2 b3
      go_wp2_with fail
      go_meet
      case rel=>exact⟨_,_,HF,HRF,TF,HMF⟩
   case rest=>
    rename World=>w2
    obtain⟨x,r,HI0,HRB0,T0,HMX0⟩:=hcut
    have T:=T0.out
    clear T0
    go_upto_if 50 with(first |(refine (flip_any b _ 3 _ T.inv (by omega) (by omega) (by omega)).mono ?_;rintro e w3 ⟨q,rfl,h3⟩))
    have HI:=hId (HI0.out.stream T.inv h3)
    have HRB:=hId (HRB0.out.mod h3.only (by omega))
    have HMX:=hId (HMX0.out.stream h3)
    have T3:=T.trans h3
    clear h3 HI0 HRB0 HMX0 T
    have T:=T3
    clear T3
    go_cut [] (fun wx=>∃ x r,Hid (RtIn wx xb x r)∧Hid (Blk wx rb 29 #[.string ⟨#[]⟩,.slice none 0 0,.string ⟨#[]⟩,.slice none 0 0,.slice none 0 0,.string ⟨#[]⟩])∧Hid (SStep b w wx (k+20))∧Hid (MaxB b wx))
    case first=>
     cases q
     ·go_wp2_with fail
      go_meet
      case rel=>exact⟨_,_,HI,HRB,hId (T.more (by omega)),HMX⟩
     ·go_wp2_with fail
      refine(some_any [⟨#[47,118,50]⟩,⟨#[47,118,50,47,120]⟩] b _ w3.heap.size 2 _ (T.alloc _).inv (by omega) (Blk.new _ _ _) rfl (by omega) (by omega)).mono ?_
      rintro e w4 ⟨v,rfl,hv,h4⟩
      have HVZ:Hid (v.size≤300):=hId (by
       simp only [List.mem_cons,List.not_mem_nil,or_false]at hv
       rcases hv with rfl | rfl
       all_goals first | decide)
      have T4:=(T.alloc (.cells #[.string ⟨#[47,118,50]⟩,.string ⟨#[47,118,50,47,120]⟩] 9)).trans h4
      have HI4:=hId ((HI.out.new ((Mod.refl _ _).alloc (.cells #[.string ⟨#[47,118,50]⟩,.string ⟨#[47,118,50,47,120]⟩] 9))).stream (T.alloc _).inv h4)
      have HRB4:=hId ((HRB.out.keepA (.cells #[.string ⟨#[47,118,50]⟩,.string ⟨#[47,118,50,47,120]⟩] 9)).mod h4.only (by omega))
      have HMX4:=hId ((HMX.out.mod ((Mod.refl (fun _=>False) _).alloc (.cells #[.string ⟨#[47,118,50]⟩,.string ⟨#[47,118,50,47,120]⟩] 9)) (fun e=>e)).stream h4)
      clear HI HRB HMX T h4 hv
      have HI:=HI4
      have HRB:=HRB4
      have HMX:=HMX4
      have T:=T4
      clear HI4 HRB4 HMX4 T4
      have q0:=HI.out.blk.cell 0
      have q1:=HI.out.blk.cell 1
      have q2:=HI.out.blk.cell 2
      have q3:=HI.out.blk.cell 3
      have q4:=HI.out.blk.cell 4
      have q5:=HI.out.blk.cell 5
      have qf:=HI.out.blk.frozen
      have ql:=HI.out.blk.lt
      simp only [lqt,lqz,lqs]at q0 q1 q2 q3 q4 q5
      have HF:=hId (RtIn.dest HI.out HVZ.out)
      have HS:=Mod.setCell (S:=fun i=>i=xb) (p:=⟨xb,5,none⟩) (Mod.refl _ w4) (.inl rfl) (.string v)
      have HRF:=hId (HRB.out.mod HS (by omega))
      have HMF:=hId (HMX.out.mod HS (by have:=HML.out;omega))
      have TF:=hId ((T.set (p:=⟨xb,5,none⟩) (by show w.heap.size≤xb;omega) (.string v)).more (show _≤k+16 by omega))
      clear HS HI HRB HMX T
      go_upto_region 10 with fail
      clear q0 q1 q2 q3 q4 q5 qf ql
      generalize w4.setCell ⟨xb,5,none⟩ (.string v)=w2 at *
      have HI0:=HF
      have HRB0:=HRF
      have HMX0:=HMF
      have T:=TF.out
      clear HF HRF HMF TF
      obtain⟨x,r,HI0⟩:∃ x r,Hid (RtIn w2 xb x r):=⟨_,_,HI0⟩
      obtain⟨p0,p1,p2,p3,p4,p5,p6,p7,p8,p9,pa_,pb_⟩:=x
      try simp only at HI0
      have z2:=HI0.out.at'.path
      have z3:=HI0.out.mini.path
      try simp only at z2
      have hct:=contains_any p4 ⟨#[123,105,100,125]⟩ b w2 (by rw [z2];omega) HMX0.out
      clear z2 z3
      have HI:=HI0
      have q0:=HI.out.blk.cell 0
      have q1:=HI.out.blk.cell 1
      have q2:=HI.out.blk.cell 2
      have q3:=HI.out.blk.cell 3
      have q4:=HI.out.blk.cell 4
      have q5:=HI.out.blk.cell 5
      have qf:=HI.out.blk.frozen
      have ql:=HI.out.blk.lt
      simp only [lqt,lqz,lqs]at q0 q1 q2 q3 q4 q5
      go_upto_if 57 with(first |(refine hct.mono ?_;clear hct;rintro e w3 ⟨q,rfl,rfl⟩))
      clear q0 q1 q2 q3 q4 q5 qf ql HI
      have HI:=HI0
      have HRB:=HRB0
      have HMX:=HMX0
      clear HI0 HRB0 HMX0
      go_cut [] (fun wx=>∃ x r,Hid (RtIn wx xb x r)∧Hid (Blk wx rb 29 #[.string ⟨#[]⟩,.slice none 0 0,.string ⟨#[]⟩,.slice none 0 0,.slice none 0 0,.string ⟨#[]⟩])∧Hid (SStep b w wx (k+18))∧Hid (MaxB b wx))
      case first=>
       cases q
       ·go_wp2_with fail
        go_meet
        case rel=>exact⟨_,_,HI,HRB,hId (T.more (by omega)),HMX⟩
       ·go_wp2_with fail
        rename World=>w3
        refine(some_any [⟨#[47,118,50,47,123,105,100,125]⟩,⟨#[47,123,105,100,125,47,121]⟩,⟨#[47,118,50]⟩] b _ w3.heap.size 3 _ (T.alloc _).inv (by omega) (Blk.new _ _ _) rfl (by omega) (by omega)).mono ?_
        rintro e w4 ⟨v,rfl,hv,h4⟩
        have HVZ:Hid (v.size≤300):=hId (by
         simp only [List.mem_cons,List.not_mem_nil,or_false]at hv
         rcases hv with rfl | rfl | rfl
         all_goals first | decide)
        have T4:=(T.alloc (.cells #[.string ⟨#[47,118,50,47,123,105,100,125]⟩,.string ⟨#[47,123,105,100,125,47,121]⟩,.string ⟨#[47,118,50]⟩] 9)).trans h4
        have HI4:=hId ((HI.out.new ((Mod.refl _ _).alloc (.cells #[.string ⟨#[47,118,50,47,123,105,100,125]⟩,.string ⟨#[47,123,105,100,125,47,121]⟩,.string ⟨#[47,118,50]⟩] 9))).stream (T.alloc _).inv h4)
        have HRB4:=hId ((HRB.out.keepA (.cells #[.string ⟨#[47,118,50,47,123,105,100,125]⟩,.string ⟨#[47,123,105,100,125,47,121]⟩,.string ⟨#[47,118,50]⟩] 9)).mod h4.only (by omega))
        have HMX4:=hId ((HMX.out.mod ((Mod.refl (fun _=>False) _).alloc (.cells #[.string ⟨#[47,118,50,47,123,105,100,125]⟩,.string ⟨#[47,123,105,100,125,47,121]⟩,.string ⟨#[47,118,50]⟩] 9)) (fun e=>e)).stream h4)
        clear HI HRB HMX T h4 hv
        have HI:=HI4
        have HRB:=HRB4
        have HMX:=HMX4
        have T:=T4
        clear HI4 HRB4 HMX4 T4
        have q0:=HI.out.blk.cell 0
        have q1:=HI.out.blk.cell 1
        have q2:=HI.out.blk.cell 2
        have q3:=HI.out.blk.cell 3
        have q4:=HI.out.blk.cell 4
        have q5:=HI.out.blk.cell 5
        have qf:=HI.out.blk.frozen
        have ql:=HI.out.blk.lt
        simp only [lqt,lqz,lqs]at q0 q1 q2 q3 q4 q5
        have HF:=hId (RtIn.dest HI.out HVZ.out)
        have HS:=Mod.setCell (S:=fun i=>i=xb) (p:=⟨xb,5,none⟩) (Mod.refl _ w4) (.inl rfl) (.string v)
        have HRF:=hId (HRB.out.mod HS (by omega))
        have HMF:=hId (HMX.out.mod HS (by have:=HML.out;omega))
        have TF:=hId ((T.set (p:=⟨xb,5,none⟩) (by show w.heap.size≤xb;omega) (.string v)).more (show _≤k+18 by omega))
        clear HS HI HRB HMX T
        go_wp2_with fail
        go_meet
        case rel=>exact⟨_,_,HF,HRF,TF,HMF⟩
      case rest=>
       rename World=>w2
       obtain⟨x,r,HI0,HRB0,T0,HMX0⟩:=hcut
       have T:=T0.out
       clear T0
       obtain⟨p0,p1,p2,p3,p4,p5,p6,p7,p8,p9,pa_,pb_⟩:=x
       try simp only at HI0
       have z2:=HI0.out.at'.path
       have z3:=HI0.out.mini.path
       try simp only at z2
       have hct:=contains_any p4 ⟨#[123,114,101,115,116,42,125]⟩ b w2 (by rw [z2];omega) HMX0.out
       clear z2 z3
       have HI:=HI0
       have q0:=HI.out.blk.cell 0
       have q1:=HI.out.blk.cell 1
       have q2:=HI.out.blk.cell 2
       have q3:=HI.out.blk.cell 3
       have q4:=HI.out.blk.cell 4
       have q5:=HI.out.blk.cell 5
       have qf:=HI.out.blk.frozen
       have ql:=HI.out.blk.lt
       simp only [lqt,lqz,lqs]at q0 q1 q2 q3 q4 q5
       go_upto_if 64 with(first |(refine hct.mono ?_;clear hct;rintro e w3 ⟨q,rfl,rfl⟩))
       clear q0 q1 q2 q3 q4 q5 qf ql HI
       have HI:=HI0
       have HRB:=HRB0
       have HMX:=HMX0
       clear HI0 HRB0 HMX0
       go_cut [] (fun wx=>∃ x r,Hid (RtIn wx xb x r)∧Hid (Blk wx rb 29 #[.string ⟨#[]⟩,.slice none 0 0,.string ⟨#[]⟩,.slice none 0 0,.slice none 0 0,.string ⟨#[]⟩])∧Hid (SStep b w wx (k+20))∧Hid (MaxB b wx))
       case first=>
        cases q
        ·go_wp2_with fail
         go_meet
         case rel=>exact⟨_,_,HI,HRB,hId (T.more (by omega)),HMX⟩
        ·go_wp2_with fail
         rename World=>w3
         refine(some_any [⟨#[47,118,50,47,123,114,101,115,116,42,125]⟩,⟨#[47,123,114,101,115,116,42,125]⟩,⟨#[47,118,50]⟩] b _ w3.heap.size 3 _ (T.alloc _).inv (by omega) (Blk.new _ _ _) rfl (by omega) (by omega)).mono ?_
         rintro e w4 ⟨v,rfl,hv,h4⟩
         have HVZ:Hid (v.size≤300):=hId (by
          simp only [List.mem_cons,List.not_mem_nil,or_false]at hv
          rcases hv with rfl | rfl | rfl
          all_goals first | decide)
         have T4:=(T.alloc (.cells #[.string ⟨#[47,118,50,47,123,114,101,115,116,42,125]⟩,.string ⟨#[47,123,114,101,115,116,42,125]⟩,.string ⟨#[47,118,50]⟩] 9)).trans h4
         have HI4:=hId ((HI.out.new ((Mod.refl _ _).alloc (.cells #[.string ⟨#[47,118,50,47,123,114,101,115,116,42,125]⟩,.string ⟨#[47,123,114,101,115,116,42,125]⟩,.string ⟨#[47,118,50]⟩] 9))).stream (T.alloc _).inv h4)
         have HRB4:=hId ((HRB.out.keepA (.cells #[.string ⟨#[47,118,50,47,123,114,101,115,116,42,125]⟩,.string ⟨#[47,123,114,101,115,116,42,125]⟩,.string ⟨#[47,118,50]⟩] 9)).mod h4.only (by omega))
         have HMX4:=hId ((HMX.out.mod ((Mod.refl (fun _=>False) _).alloc (.cells #[.string ⟨#[47,118,50,47,123,114,101,115,116,42,125]⟩,.string ⟨#[47,123,114,101,115,116,42,125]⟩,.string ⟨#[47,118,50]⟩] 9)) (fun e=>e)).stream h4)
         clear HI HRB HMX T h4 hv
         have HI:=HI4
         have HRB:=HRB4
         have HMX:=HMX4
         have T:=T4
         clear HI4 HRB4 HMX4 T4
         have q0:=HI.out.blk.cell 0
         have q1:=HI.out.blk.cell 1
         have q2:=HI.out.blk.cell 2
         have q3:=HI.out.blk.cell 3
         have q4:=HI.out.blk.cell 4
         have q5:=HI.out.blk.cell 5
         have qf:=HI.out.blk.frozen
         have ql:=HI.out.blk.lt
         simp only [lqt,lqz,lqs]at q0 q1 q2 q3 q4 q5
         have HF:=hId (RtIn.dest HI.out HVZ.out)
         have HS:=Mod.setCell (S:=fun i=>i=xb) (p:=⟨xb,5,none⟩) (Mod.refl _ w4) (.inl rfl) (.string v)
         have HRF:=hId (HRB.out.mod HS (by omega))
         have HMF:=hId (HMX.out.mod HS (by have:=HML.out;omega))
         have TF:=hId ((T.set (p:=⟨xb,5,none⟩) (by show w.heap.size≤xb;omega) (.string v)).more (show _≤k+20 by omega))
         clear HS HI HRB HMX T
         go_wp2_with fail
         go_meet
         case rel=>exact⟨_,_,HF,HRF,TF,HMF⟩
       case rest=>
        rename World=>w9
        obtain⟨x,r,HI,HRB,T0,HMX⟩:=hcut
        have T:=T0.out
        clear T0
        go_wp2_with fail
        go_meet
        case rel=>exact⟨x,r,HI,HRB,hId T,HMX⟩
    case rest=>
     rename World=>w2
     obtain⟨x,r,HI0,HRB0,T0,HMX0⟩:=hcut
     have T:=T0.out
     clear T0
     have hcP:=HI0.out.blk.cell
     have ql:=HI0.out.blk.lt
     have hcR:=HRB0.out.cell
     have hfR:=HRB0.out.frozen
     have rlt:=HRB0.out.lt
     have HAT:=hId HI0.out.at'
     have HMN:=hId HI0.out.mini
     have HTB:=hId HRB0.out.tb
     have hmF:=fun(v0 v1 v2 v3 v4 v5:Value)=>(Mod.setCell (S:=fun i=>i=rb) (p:=⟨rb,5,none⟩) (Mod.setCell (S:=fun i=>i=rb) (p:=⟨rb,4,none⟩) (Mod.setCell (S:=fun i=>i=rb) (p:=⟨rb,3,none⟩) (Mod.setCell (S:=fun i=>i=rb) (p:=⟨rb,2,none⟩) (Mod.setCell (S:=fun i=>i=rb) (p:=⟨rb,1,none⟩) (Mod.setCell (S:=fun i=>i=rb) (p:=⟨rb,0,none⟩) (Mod.refl _ w2) (.inl rfl) v0) (.inl rfl) v1) (.inl rfl) v2) (.inl rfl) v3) (.inl rfl) v4) (.inl rfl) v5)
     have HMF:=hId hmF
     have HFIN:Hid (∀ W',Mod (fun i=>i=rb) w2 W'→RtAt W' x r∧SStep b w W' (k+20)):=hId (fun W' hm=>⟨⟨HAT.out.key,HAT.out.path,HAT.out.dest,HAT.out.hosts.mod hm (fun g hg e=>hg.ne HTB.out (by decide) e),HAT.out.methods.mod hm (fun g hg e=>hg.ne HTB.out (by decide) e),HAT.out.needs.mod hm (fun g hg e=>hg.ne HTB.out (by decide) e),HAT.out.hcap,HAT.out.mcap,HAT.out.ncap⟩,⟨T.lt,T.only.step hm (fun i hi e=>by omega),(T.inv.mod hm (fun i hi e=>by omega)).more (by omega)⟩⟩)
     clear hmF HI0 HRB0 HMX0
     obtain⟨x0,x1,x2,x3,x4,x5,x6,x7,x8,x9,xa,xc⟩:=x
     go_wp2_with fail
     refine bodyPost_ret (v:=RA.val ⟨x0,x1,x2,x3,x4,x5,x6,x7,x8,x9,xa,xc⟩) (by simp [results,Tryz.results17,go_sem,hcP,hcR,hfR,ql,rlt,RA.val]) rfl ?_
     exact⟨_,r,rfl,(HFIN.out _ (HMF.out _ _ _ _ _ _)).1,HMN.out,(HFIN.out _ (HMF.out _ _ _ _ _ _)).2⟩
end Go.Proofs.YtnlloaimplgjnaaGreatDoor
