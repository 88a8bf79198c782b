/- Several texts in one. (1) The reference's loop over an iterator (gateref2.PathOf): what one round may turn; the row turned about. No conditions. (2) The reference's normal form of a path (gateref2.PathOf). Conditions: a text of modest size; the library's variables lie as they should. (3) A word of a query as it is written: the program's and the reference's. Conditions: texts of modest size. -/
import Derived.Test.YtnlloaimplgjnaaGreatDoorBytesOfGrp
import Derived.Test.YtnlloaimplgjnaaGreatDoorPairGrp
import Derived.Shelf.Abstract
import Derived.Test.YtnlloaimplgjnaaGreatDoorNormGrp
import Derived.Outline
import Derived.Test.YtnlloaimplgjnaaGreatDoorSeg3Grp
import Derived.Test.YtnlloaimplgjnaaGreatDoorNumMGrp
namespace Go.Proofs.YtnlloaimplgjnaaGreatDoor
open Go.RowKit Go.Shelf
set_option linter.unusedVariables false
set_option linter.unusedSimpArgs false
theorem Mod.setCells {S:Nat→Prop} {a:World} {g:Nat} (hg:S g∨a.heap.size≤g):∀(vs:List Value) (o:Nat) {w:World},Mod S a w→Mod S a (w.setCells g o vs)
 | [],_,_,h=>h
 | v::vs,o,w,h=>Mod.setCells hg vs (o+1) (h.setCell (p:=⟨g,o,none⟩) hg v)
/-- a row of texts turned about: what its cells hold then -/
theorem rev_any {w:World} {B g n c:Nat} {st:List ByteArray} (h:Own w B 9 1 sEnc (some ⟨g,0,none⟩) n c st):
  Calls Tryz.prog 126 #[.slice (some ⟨g,0,none⟩) n c] w fun e w'=>e= .returned (.tuple #[])∧Mod (fun k=>k=g) w w'∧∀ i (x:ByteArray),st.reverse[i]? =some x→w'.cell? ⟨g,0+i,none⟩=some (.string x):=by
 have hl:=h.1
 have hn:n≤maxLen:=by
  rcases h.2.2 with⟨hv,hn⟩ |⟨g',cap,cur,hv,hB,hh,hc1,hc2,hs,ht⟩
  ·cases hv
  ·have:=h.1;omega
 have hm0:maxLen≤9223372036854775807:=by unfold maxLen;omega
 have hc0:∀ i,i<n→w.cell? ⟨g,0+i,none⟩=some (.string (st.getD i ByteArray.empty)):=fun i hi=>by
  rw [Nat.zero_add,h.cell1 (i:=i) (by omega),List.getD_eq_getElem?_getD,List.getElem?_eq_getElem (by omega)]
  rfl
 refine(Tryz.slices_Reverse_string_cells g 0 n c (fun i=>st.getD i ByteArray.empty) w (by omega) hc0 (fun j _=>h.frozen _)).mono ?_
 rintro e w' ⟨rfl,q,rfl⟩
 refine⟨rfl,Mod.setCells (S:=fun k=>k=g) (.inl rfl) _ _ ((Mod.refl _ _).drewN q),fun i x hx=>?_⟩
 have hi:i<st.length:=by
  rcases Nat.lt_or_ge i st.reverse.length with h | h
  ·simpa using h
  ·rw [List.getElem?_eq_none h]at hx;cases hx
 have hil:i<((Lib.strsOf (fun i=>st.getD i ByteArray.empty) n).reverse.map encStr).length:=by simp [Lib.strsOf_length];omega
 have:=World.cell?_setCells_in g ((Lib.strsOf (fun i=>st.getD i ByteArray.empty) n).reverse.map encStr) 0 (w.drewN q) (fun j hj=>by
  rw [List.length_map,List.length_reverse,Lib.strsOf_length]at hj
  have:=hc0 j hj
  show(w.cell? _).isSome=true
  rw [this];rfl) i hil
 rw [this]
 congr 1
 rw [List.getElem_map]
 have e1:(Lib.strsOf (fun i=>st.getD i ByteArray.empty) n)=st.map (·.data.toList):=by
  apply List.ext_getElem
  ·rw [Lib.strsOf_length,List.length_map];omega
  ·intro k h1 h2
   rw [List.length_map]at h2
   simp only [Lib.strsOf,List.getElem_map,List.getElem_range,List.getD_eq_getElem?_getD,List.getElem?_eq_getElem h2,Option.getD_some]
 have hx2:st.reverse[i]'(by simpa using hi)=x:=by
  rw [List.getElem?_eq_getElem (by simpa using hi)]at hx
  injection hx
 have hlr:i<(st.map (·.data.toList)).reverse.length:=by simpa using hi
 have e2:(Lib.strsOf (fun i=>st.getD i ByteArray.empty) n).reverse[i]'(by simp [Lib.strsOf_length];omega)=x.data.toList:=by
  simp only [e1,←List.map_reverse,List.getElem_map,hx2]
 rw [e2]
/-- what one round may turn: the two boxes, the row that stands; what is laid anew -/
theorem keeps_of {B ob kb:Nat} {A:Option Addr} {W W':World} {t1 t2 t3:TypeId} (hm:Mod (fun k=>k=ob∨k=kb∨blkOf A=some k) W W') (h1:TB W ob t1) (h2:TB W kb t2) (h3:∀ g,blkOf A=some g→TB W g t3):KeepsFrom B W W':=
 ⟨hm.size,fun k o _ hk ho=>by
  have no:∀ g t,TB W g t→k=g→False:=by
   rintro g t ⟨cs,fr,hg⟩ rfl
   rw [hg]at hk
   injection hk with hk
   subst hk
   cases ho
  refine(hm.block k (heap_lt hk) ?_).trans hk
  rintro(e | e | e)
  ·exact no _ _ h1 e
  ·exact no _ _ h2 e
  ·exact no _ _ (h3 k e) rfl⟩
/-- the loop's boxes lie in this order -/
def PNum (w0 L lb ob kb Bs n0:Nat):Prop:=w0≤L∧L<lb∧lb<ob∧ob<kb∧kb<Bs∧Bs<n0
def PSet (ob kb:Nat) (A:Option Addr):Nat→Prop:=fun k=>k=ob∨k=kb∨blkOf A=some k
section
variable {w0:World} {L lb ob kb Bs n0 N:Nat} {W:World} {A:Option Addr} {n c:Nat} {out:List ByteArray} {v1 v2 v3:Array Value}
theorem boxes4 {wr W:World} {cs:Array Value} {v:Value} {t1 t2 t3:TypeId} {u1 u2:Value} (h:(((wr.alloc (.cells cs t1)).alloc (.cells #[v] t2)).alloc (.cells #[u1] t2)).alloc (.cells #[u2] t3)=W):
  Blk W wr.heap.size t1 cs∧Blk W (wr.heap.size+1) t2 #[v]∧Blk W (wr.heap.size+1+1) t2 #[u1]∧Blk W (wr.heap.size+1+1+1) t3 #[u2]∧New wr W∧W.heap.size=wr.heap.size+1+1+1+1:=by
 subst h
 have n1:∀(w:World) (o:Obj),New w (w.alloc o):=fun w o=>(Mod.refl _ _).alloc _
 refine⟨(((Blk.new wr t1 cs).new2 (n1 _ _)).new2 (n1 _ _)).new2 (n1 _ _),((Blk.new' (w:=wr.alloc (.cells cs t1)) t2 #[v] (by simp)).new2 (n1 _ _)).new2 (n1 _ _),(Blk.new' (w:=(wr.alloc (.cells cs t1)).alloc (.cells #[v] t2)) t2 #[u1] (by simp)).new2 (n1 _ _),Blk.new' t3 #[u2] (by simp),(((n1 _ _).alloc _).alloc _).alloc _,by simp⟩
theorem push_box (hN:PNum w0.heap.size L lb ob kb Bs n0) (h1:Blk W lb 26 v1) (h2:Blk W ob 26 #[.slice A n c]) (h3:Blk W kb 3 v3) (h4:Own W n0 9 1 sEnc A n c out) (h6:n0≤W.heap.size)
  {o:Obj} {w8:World} {g8 cap8:Nat} {ys:List ByteArray} (hg8:(W.alloc o).grownBy w8 (blkOf A)) (own8:Own w8 n0 9 1 sEnc (some ⟨g8,0,none⟩) (n+1) cap8 ys):
  Blk w8 ob 26 #[.slice A n c]∧Blk (w8.setCell ⟨ob,0,none⟩ (.slice (some ⟨g8,0,none⟩) (n+1) cap8)) lb 26 v1∧Blk (w8.setCell ⟨ob,0,none⟩ (.slice (some ⟨g8,0,none⟩) (n+1) cap8)) ob 26 #[.slice (some ⟨g8,0,none⟩) (n+1) cap8]∧
   Blk (w8.setCell ⟨ob,0,none⟩ (.slice (some ⟨g8,0,none⟩) (n+1) cap8)) kb 3 v3∧Own (w8.setCell ⟨ob,0,none⟩ (.slice (some ⟨g8,0,none⟩) (n+1) cap8)) n0 9 1 sEnc (some ⟨g8,0,none⟩) (n+1) cap8 ys∧
   Mod (PSet ob kb A) W (w8.setCell ⟨ob,0,none⟩ (.slice (some ⟨g8,0,none⟩) (n+1) cap8)):=by
 obtain⟨q1,q2,q3,q4,q5,q6⟩:=hN
 have hA:New W (W.alloc o):=(Mod.refl _ _).alloc _
 have hA8:Mod (fun k=>blkOf A=some k) (W.alloc o) w8:=(Mod.refl (fun k=>blkOf A=some k) _).grown hg8 (fun k e=>.inl e)
 have hm8:Mod (fun k=>blkOf A=some k) W w8:=(Mod.refl (fun k=>blkOf A=some k) W).alloc o |>.trans hA8
 have hx:∀ k,k<n0→¬ blkOf A=some k:=fun k hk e=>by have:=h4.farP k e;omega
 have hy:∀ g,blkOf (some (⟨g8,0,none⟩:Addr))=some g→n0≤g:=fun g e=>own8.farP g e
 have hs9:Mod (fun k=>k=ob) w8 (w8.setCell ⟨ob,0,none⟩ (.slice (some ⟨g8,0,none⟩) (n+1) cap8)):=(Mod.refl (fun k=>k=ob) _).setCell (.inl rfl) _
 have hob8:=h2.mod hm8 (hx _ (by omega))
 refine⟨hob8,(h1.mod hm8 (hx _ (by omega))).mod hs9 (by omega),hob8.set 0 _,(h3.mod hm8 (hx _ (by omega))).mod hs9 (by omega),own8.mod hs9 (fun g e=>by have:=hy g e;omega),?_⟩
 exact(hm8.mono (T:=PSet ob kb A) (fun i _ e=>.inr (.inr e))).setCell (.inl (.inl rfl)) _
theorem put_kb (hN:PNum w0.heap.size L lb ob kb Bs n0) (h1:Blk W lb 26 v1) (h2:Blk W ob 26 v2) (z:Value) (h3:Blk W kb 3 #[z]) (h4:Own W n0 9 1 sEnc A n c out) (u:Value) {A':Option Addr}:
  Blk (W.setCell ⟨kb,0,none⟩ u) lb 26 v1∧Blk (W.setCell ⟨kb,0,none⟩ u) ob 26 v2∧Blk (W.setCell ⟨kb,0,none⟩ u) kb 3 #[u]∧Own (W.setCell ⟨kb,0,none⟩ u) n0 9 1 sEnc A n c out∧Mod (PSet ob kb A') W (W.setCell ⟨kb,0,none⟩ u):=by
 obtain⟨q1,q2,q3,q4,q5,q6⟩:=hN
 have hs9:Mod (fun k=>k=kb) W (W.setCell ⟨kb,0,none⟩ u):=(Mod.refl (fun k=>k=kb) _).setCell (.inl rfl) _
 exact⟨h1.mod hs9 (by omega),h2.mod hs9 (by omega),h3.set 0 _,h4.mod hs9 (fun g e=>by have:=h4.farP g e;omega),hs9.mono (fun i _ e=>.inr (.inl e))⟩
/-- the round's end -/
theorem round_out (hN:PNum w0.heap.size L lb ob kb Bs n0) {B:Nat} {pre:List (Nat×ByteArray)} {x:Nat×ByteArray} {W':World} {A':Option Addr} {n' c':Nat} {out':List ByteArray} {skip':Nat}
  (h2:Blk W ob 26 v2) (h3:Blk W kb 3 v3) (h4:Own W n0 9 1 sEnc A n c out) (h5:New w0 W) (h6:n0≤W.heap.size)
  (hf:foldB N (pre++ [x])=(out',skip')) (hm:Mod (PSet ob kb A) W W') (h1':Blk W' lb 26 #[.slice (some ⟨L,0,none⟩) N N]) (h2':Blk W' ob 26 #[.slice A' n' c']) (h3':Blk W' kb 3 #[.int .i64 (skip':Int)]) (h4':Own W' n0 9 1 sEnc A' n' c' out'):
  KeepsFrom B W W'∧Kept2 L Bs W W'∧PInv w0 L lb ob kb n0 N (pre++ [x]) W':=by
 obtain⟨q1,q2,q3,q4,q5,q6⟩:=hN
 have hA:∀ g,blkOf A=some g→n0≤g:=fun g e=>h4.farP g e
 refine⟨keeps_of (t3:=9) hm h2.tb h3.tb (fun g e=>?_),⟨hm.block L (by omega) ?_,hm.block Bs (by omega) ?_⟩,A',n',c',h1',h2',?_,?_,h5.step hm ?_,Nat.le_trans h6 hm.size⟩
 ·rcases h4.blk with⟨rfl,_,_⟩ |⟨g',rfl,_,htb⟩
  ·cases e
  ·injection e with e;subst e;exact htb
 ·rintro(e | e | e)
  ·omega
  ·omega
  ·have:=hA _ e;omega
 ·rintro(e | e | e)
  ·omega
  ·omega
  ·have:=hA _ e;omega
 ·rw [hf];exact h3'
 ·rw [hf];exact h4'
 ·rintro i hi (e | e | e)
  ·omega
  ·omega
  ·have:=hA _ e;omega
end
end Go.Proofs.YtnlloaimplgjnaaGreatDoor
namespace Go.Proofs.YtnlloaimplgjnaaGreatDoor
open Go.RowKit Go.Shelf
set_option linter.unusedVariables false
set_option linter.unusedSimpArgs false
attribute [local go_sem] Oper.semAt_some
abbrev plainB2:ByteArray:=⟨#[97,98,99,100,101,102,103,104,105,106,107,108,109,110,111,112,113,114,115,116,117,118,119,120,121,122,65,66,67,68,69,70,71,72,73,74,75,76,77,78,79,80,81,82,83,84,85,86,87,88,89,90,48,49,50,51,52,53,54,55,56,57,45,46,95,126]⟩
theorem ascii_enc (c:UInt8):c.toNat<128→Utf8.encode (c.toNat:Int)=⟨#[c]⟩:=by
 revert c
 apply byteOf
 decide +kernel
theorem only_free (c:UInt8):c.toNat<128→onlyB plainB2.data.toList [c]=freeN c.toNat:=by
 revert c
 apply byteOf
 decide +kernel
theorem high_free (c:UInt8):¬ c.toNat<128→freeN c.toNat=false:=by
 revert c
 apply byteOf
 decide +kernel
theorem enc_size (n:Int):(Utf8.encode n).size≤4:=by
 unfold Utf8.encode
 simp only
 repeat' split
 all_goals (first | decide |(show _≤4;simp [ByteArray.size]))
/-- a row of one byte as a string -/
theorem one_byte (w:World) (a:UInt8):
  (convert 107 9 (.slice (some ⟨w.heap.size,0,none⟩) 1 1)).run Tryz.prog (w.alloc (.cells #[.int .u8 (a.toNat:Int)] 5))= .ok (.string ⟨#[a]⟩) (w.alloc (.cells #[.int .u8 (a.toNat:Int)] 5)):=by
 have:=run_convert_bytes_arg (P:=Tryz.prog) (w.alloc (.cells #[.int .u8 (a.toNat:Int)] 5)) 107 5 Tryz.underlying107 Tryz.underlying5 w.heap.size 0 1 1 [(a.toNat:Int)] rfl (fun i hi=>by
  rw [Nat.zero_add,(Blk.new w 5 #[.int .u8 (a.toNat:Int)]).cell]
  obtain rfl:i=0:=by omega
  rfl) 9 Tryz.underlying9
 have e:strOfNums [(a.toNat:Int)]=⟨#[a]⟩:=by
  unfold strOfNums
  simp only [List.map_cons,List.map_nil,Int.toNat_natCast,UInt8.ofNat_toNat]
 rw [e]at this
 exact this
theorem flatN_take (us:List (UInt8×Bool)) {k:Nat} (h:k<us.length):(us.take (k+1)).flatMap normC=(us.take k).flatMap normC++normC us[k]:=by
 rw [List.take_succ_eq_append_getElem h,List.flatMap_append]
 simp
theorem bodyM_ret {n:Nat} {P:Program} {fn:Func} {R:Ending→World→Prop} {a:Act} {w:World} (h:bodyPost P fn R .ret a w):bodyPostM Fence.wide n P fn R .ret a w:=by
 obtain⟨h1,h2⟩:=h
 show LeavesInM Fence.wide n P fn a.tmps R a.defers .returning w
 rw [h1]
 exact h2
theorem dotsF_size {Z:Nat}:∀(segs st:List ByteArray),(∀ x∈segs,x.size≤Z)→(∀ x∈st,x.size≤Z)→∀ y∈dotsF segs st,y.size≤Z
 | [],st,_,h=>by rw [dotsF];exact h
 | x::r,st,hx,h=>by
  have hr:=fun y hy=>hx y (List.mem_cons_of_mem x hy)
  have hE:∀ st:List ByteArray,(∀ x∈st,x.size≤Z)→∀ x∈st++ [emptyB],x.size≤Z:=fun st h y hy=>by
   rcases List.mem_append.1 hy with h' | h'
   ·exact h y h'
   ·simp at h';subst h';exact Nat.zero_le _
  have hD:∀ x∈st.dropLast,x.size≤Z:=fun y hy=>h y ((List.dropLast_sublist st).subset hy)
  rw [dotsF]
  split
  ·refine dotsF_size r _ hr ?_
   split
   ·exact hE _ h
   ·exact h
  ·split
   ·refine dotsF_size r _ hr ?_
    split
    ·exact hE _ hD
    ·exact hD
   ·refine dotsF_size r _ hr (fun y hy=>?_)
    rcases List.mem_append.1 hy with h' | h'
    ·exact h y h'
    ·simp at h';subst h';exact hx _ (by simp)
set_option maxRecDepth 100000 in
set_option maxHeartbeats 800000 in
theorem ref2_pathOf (s:ByteArray) (w:World) (hs:s.size≤100000) (hx:MaxLn w) (he:ErrSyn w):
  Calls Tryz.prog 52 #[.string s] w (RTxt (pathN s) w):=by
 have hpf:=ref2_pathForm s w (by omega)
 have hun:=fun W (h:New w W)=>ref2_units s W (by omega) (he.new h)
 have HUN:=hId hun
 have HX:=hId hx
 clear hun hx he
 refine callsIn_wide.1 (callsIn_of_wp_marks (n:=9) Tryz.func52 rfl trivial (wpIn_wide.2 ?_) rfl)
 simp only [Tryz.ntmps52,List.size_toArray,List.length_cons,List.length_nil,Nat.reduceAdd,Nat.reduceSub,Array.replicate_succ,Array.replicate_zero,List.push_toArray,List.append_toArray,List.nil_append,List.cons_append]
 by_cases hp:pathBad s.data.toList=0
 rotate_left
 ·have HQ:Hid (pathN s=(pathBad s.data.toList,[])):=hId (by unfold pathN;rw [if_pos hp])
  have h3:pathBad s.data.toList=3:=by
   unfold pathBad at hp ⊢
   split
   ·rfl
   ·split
    ·rfl
    ·split
     ·rfl
     ·split
      ·rfl
      ·rename_i a b c d
       rw [if_neg a,if_neg b,if_neg c,if_neg d]at hp
       exact absurd rfl hp
  rw [h3]at HQ
  rw [decide_eq_false hp]at hpf
  clear hp h3
  go_wp2_with fail
  refine hpf.mono ?_
  clear hpf
  rintro e w1 ⟨rfl,hm⟩
  have HM:=hId hm
  clear hm
  go_wp2_with fail
  refine bodyM_ret ?_
  go_ret2
  exact RTxt.fault HQ.out HM.out
 rw [decide_eq_true hp]at hpf
 obtain⟨hl,r,hr⟩:=pathBad_ok hp
 have hQ:pathN s=match normL s.data.toList with
   | none=>(9,[])
   | some t=>(0,slashed (dotsF (pieces ⟨(t.drop 1).toArray⟩ slB) [])):=by
  unfold pathN
  rw [if_neg (fun h=>h hp)]
  cases normL s.data.toList <;> rfl
 have HR:=hId hr
 have hss:s.size≤1000:=hl
 clear hp hr hl
 cases hu:unitsL s.data.toList with
 | none=>
  have hn:normL s.data.toList=none:=by unfold normL;rw [hu];rfl
  rw [hn]at hQ
  have HQ:Hid (pathN s=(9,[])):=hId hQ
  rw [hu]at HUN
  clear hn hQ hu
  go_wp2_with fail
  refine hpf.mono ?_
  clear hpf
  rintro e w1 ⟨rfl,hm⟩
  go_wp2_with fail
  refine(HUN.out w1 hm).mono ?_
  clear HUN
  rintro e w2 ⟨A,n,c,rfl,hsl,hm2,hn9⟩
  have HM:=hId (hm.trans hm2)
  clear hm hm2 hsl
  simp only [Option.isSome_none]
  go_wp2_with fail
  refine bodyM_ret ?_
  go_ret2
  exact RTxt.fault HQ.out HM.out
 | some us=>
  have hn:normL s.data.toList=some (us.flatMap normC):=by unfold normL;rw [hu];rfl
  have hnl:=normL_length hn
  obtain⟨t',ht'⟩:=normL_head HR.out hn
  rw [hn]at hQ
  have HQ:Hid (pathN s=(0,slashed (dotsF (pieces ⟨((us.flatMap normC).drop 1).toArray⟩ slB) []))):=hId hQ
  rw [hu]at HUN
  have HH:=hId ht'
  have hsl0:s.data.toList.length=s.size:=rfl
  have hul:=unitsL_length _ _ us (Nat.le_refl _) hu
  have hu1:us.length≤1000:=by omega
  clear hn hQ hu HR ht' hul
  go_wp2_with fail
  refine hpf.mono ?_
  clear hpf
  rintro e w1 ⟨rfl,hm⟩
  go_wp2_with fail
  refine(HUN.out w1 hm).mono ?_
  clear HUN
  rintro e w2 ⟨A,n,c,rfl,hsl,hm2,hn9⟩
  simp only [Option.isSome_some,Option.getD_some]at hsl ⊢
  have HM2:=hId (hm.trans hm2)
  have HSL:=hId hsl
  have hnl2:us.length=n:=hsl.1
  have HNL:=hId hnl2
  have hn1:n≤1000:=by omega
  have HW2:Hid (New w2 w2):=hId (Mod.refl _ _)
  clear hm hm2 hsl hnl2
  go_wp2_with fail
  go_loopw [6,26] (fun o i wr=>∃(k:Nat) (T:ByteArray),k≤n∧i= .int .i64 k∧o= .string T∧Hid (T.data.toList=(us.take k).flatMap normC)∧Hid (New w2 wr)) (fun _ i _=>n -(intOf i).toNat)
  case atStart=>exact⟨0,⟨#[]⟩,Nat.zero_le _,rfl,rfl,hId rfl,HW2⟩
  case round=>
   clear HW2
   rename World=>wr
   obtain⟨k,T,hk,rfl,rfl,HT,HW⟩:=hrel
   by_cases hlt:k<n
   ·have hkl:k<us.length:=by have:=HNL.out;omega
    obtain⟨g,o,hA,ht,hc⟩:=(HSL.out.new HW.out).2 (by omega)
    subst hA
    have a0:=hc k hkl 0 (by omega)
    have a1:=hc k hkl 1 (by omega)
    have hgl:=ht.lt
    have htk:=flatN_take us hkl
    have hTz:T.size≤3000:=by
     have h1:T.data.toList.length=T.size:=rfl
     have h2:=flat_norm_length (us.take k)
     rw [HT.out]at h1
     have h3:(us.take k).length≤k:=by rw [List.length_take];omega
     omega
    have hb1:(0:Int)≤k:=by omega
    have hb2:(k:Int)<n:=by omega
    clear hc ht
    generalize us[k]=x at *
    obtain⟨xc,xp⟩:=x
    simp only [unitEnc,Nat.add_zero]at a0 a1
    have HTK:=hId htk
    have hbx:=Blk.new wr 157 #[.int .u8 (xc.toNat:Int),.bool xp]
    have hmx:New wr (wr.alloc (.cells #[.int .u8 (xc.toNat:Int),.bool xp] 157)):=(Mod.refl _ _).alloc _
    have HWA:=hId (HW.out.trans hmx)
    have hx256:=xc.toNat_lt
    have hwr:=wrap32 xc
    clear htk hmx HW
    go_upto_region 10 with fail
    have p0:=hbx.cell 0
    have p1:=hbx.cell 1
    have pl:=hbx.lt
    simp only [lqt,lqz,lqs]at p0 p1
    clear hbx a0 a1
    generalize wr.alloc (.cells #[.int .u8 (xc.toNat:Int),.bool xp] 157)=wA at *
    generalize wr.heap.size=xb at *
    have hob:=one_byte wA xc
    have hcd:=fun W=>ref2_coded xc W
    obtain⟨z,hz⟩:∃ z:Int,z=(xc.toNat:Int):=⟨_,rfl⟩
    have z0:0≤z:=by omega
    have z1:z<256:=by omega
    rw [← hz]at p0 hwr hob hcd
    have s1:(⟨#[xc]⟩:ByteArray).size=1:=rfl
    have s3:(⟨#[37,upHex (xc.toNat / 16),upHex (xc.toNat % 16)]⟩:ByteArray).size=3:=rfl
    cases xp
    ·have hen:=enc_size z
     have hon:=fun W=>ref2_only (Utf8.encode z) plainB2 W (by omega)
     by_cases h128:xc.toNat<128
     ·have hae:Utf8.encode z=⟨#[xc]⟩:=by rw [hz];exact ascii_enc xc h128
      rw [hae,show(⟨#[xc]⟩:ByteArray).data.toList= [xc] from rfl,only_free xc h128]at hon
      have h128i:z<128:=by omega
      cases hf:freeN xc.toNat <;> rw [hf]at hon
      ·have HV:normC (xc,false)= [37,upHex (xc.toNat / 16),upHex (xc.toNat % 16)]:=by unfold normC pctC;simp [hf]
       clear hf h128 hen hz hx256
       have HT1:Hid ((T++(⟨#[37,upHex (xc.toNat / 16),upHex (xc.toNat % 16)]⟩:ByteArray)).data.toList=(us.take (k+1)).flatMap normC):=hId (by rw [cat_list,HT.out,HTK.out,HV])
       clear HV HT hob s1
       generalize (⟨#[37,upHex (xc.toNat / 16),upHex (xc.toNat % 16)]⟩:ByteArray)=V at *
       have hadd:¬ 9223372036854775807<T.size+V.size:=by omega
       go_wp2_with (first |(refine (hon _).mono ?_;clear hon;rintro e w' ⟨rfl,rfl⟩) |(refine (hcd _).mono ?_;clear hcd;rintro e w' ⟨rfl,rfl⟩))
       go_roundw
       case rel=>exact⟨k+1,_,by omega,by go_num,rfl,HT1,HWA⟩
       case measure=>simp [intOf];omega
      ·have HV:normC (xc,false)= [xc]:=by unfold normC;simp [hf]
       clear hf h128 hen hz hx256
       have HT1:Hid ((T++(⟨#[xc]⟩:ByteArray)).data.toList=(us.take (k+1)).flatMap normC):=hId (by rw [cat_list,HT.out,HTK.out,HV])
       have hadd:¬ 9223372036854775807<T.size+(⟨#[xc]⟩:ByteArray).size:=by omega
       clear HV HT s3 hcd
       go_wp2_with (first |(refine (hon _).mono ?_;clear hon;rintro e w' ⟨rfl,rfl⟩) | fail)
       go_roundw
       case rel=>exact⟨k+1,_,by omega,by go_num,rfl,HT1,hId (HWA.out.alloc _)⟩
       case measure=>simp [intOf];omega
     ·have hf:=high_free xc h128
      have HV:normC (xc,false)= [37,upHex (xc.toNat / 16),upHex (xc.toNat % 16)]:=by unfold normC pctC;simp [hf]
      have h128i:¬ z<128:=by omega
      clear hf h128 hen hz hx256
      generalize hU:Utf8.encode z=U at *
      generalize onlyB plainB2.data.toList U.data.toList=q at *
      cases q
      ·have HT1:Hid ((T++(⟨#[37,upHex (xc.toNat / 16),upHex (xc.toNat % 16)]⟩:ByteArray)).data.toList=(us.take (k+1)).flatMap normC):=hId (by rw [cat_list,HT.out,HTK.out,HV])
       clear HV HT hob s1
       generalize (⟨#[37,upHex (xc.toNat / 16),upHex (xc.toNat % 16)]⟩:ByteArray)=V at *
       have hadd:¬ 9223372036854775807<T.size+V.size:=by omega
       go_wp2_with (first |(refine (hon _).mono ?_;clear hon;rintro e w' ⟨rfl,rfl⟩) |(refine (hcd _).mono ?_;clear hcd;rintro e w' ⟨rfl,rfl⟩))
       go_roundw
       case rel=>exact⟨k+1,_,by omega,by go_num,rfl,HT1,HWA⟩
       case measure=>simp [intOf];omega
      ·have HT1:Hid ((T++(⟨#[37,upHex (xc.toNat / 16),upHex (xc.toNat % 16)]⟩:ByteArray)).data.toList=(us.take (k+1)).flatMap normC):=hId (by rw [cat_list,HT.out,HTK.out,HV])
       clear HV HT hob s1
       generalize (⟨#[37,upHex (xc.toNat / 16),upHex (xc.toNat % 16)]⟩:ByteArray)=V at *
       have hadd:¬ 9223372036854775807<T.size+V.size:=by omega
       go_wp2_with (first |(refine (hon _).mono ?_;clear hon;rintro e w' ⟨rfl,rfl⟩) |(refine (hcd _).mono ?_;clear hcd;rintro e w' ⟨rfl,rfl⟩))
       go_roundw
       case rel=>exact⟨k+1,_,by omega,by go_num,rfl,HT1,HWA⟩
       case measure=>simp [intOf];omega
    ·have HV:normC (xc,true)= [xc]:=rfl
     clear hz hx256 hwr hcd s3
     have HT1:Hid ((T++(⟨#[xc]⟩:ByteArray)).data.toList=(us.take (k+1)).flatMap normC):=hId (by rw [cat_list,HT.out,HTK.out,HV])
     have hadd:¬ 9223372036854775807<T.size+(⟨#[xc]⟩:ByteArray).size:=by omega
     clear HV HT
     go_upto_region 11 with fail
     go_wp2_with fail
     go_roundw
     case rel=>exact⟨k+1,_,by omega,by go_num,rfl,HT1,hId (HWA.out.alloc _)⟩
     case measure=>simp [intOf];omega
   ·obtain rfl:k=n:=by omega
    have hUS:us.take k=us:=List.take_of_length_le (by have:=HNL.out;omega)
    have hT:=HT.out
    rw [hUS,HH.out]at hT
    obtain rfl:T=⟨(47::t').toArray⟩:=ByteArray.ext (by rw [← hT])
    have hQ:=HQ.out
    rw [HH.out,List.drop_succ_cons,List.drop_zero]at hQ
    have HQ2:=hId hQ
    have hext:=extract_tail t'
    have htl:t'.length+1≤3000:=by
     have h2:=flat_norm_length us
     rw [HH.out,List.length_cons]at h2
     omega
    have hU:(⟨t'.toArray⟩:ByteArray).size≤3000:=by
     show t'.toArray.size≤3000
     simp only [List.size_toArray]
     omega
    have hZs:(⟨(47::t').toArray⟩:ByteArray).size=t'.length+1:=by
     show(List.toArray (47::t')).size=_
     simp
    have hZ1:1≤(⟨(47::t').toArray⟩:ByteArray).size:=by omega
    clear hZs hQ hT hUS HT HQ HH hlt
    generalize (⟨(47::t').toArray⟩:ByteArray)=Z at *
    generalize (⟨t'.toArray⟩:ByteArray)=U at *
    have hZi:(1:Int)≤(Z.size:Int):=by omega
    have hne:=pieces_ne (t:=U) (sep:=slB) (Nat.le_refl _)
    have hpc:=pieces_count hU
    have hpl:=fun x (hx:x∈pieces U slB)=>Nat.le_trans (pieces_le hx) hU
    have hwr0:=HM2.out.trans HW.out
    have hsp:=split_any U 47 wr (by omega) (HX.out.new hwr0)
    go_upto_region 14 with fail
    go_wp2_with (first |(refine hsp.mono ?_;clear hsp;rintro e w3 ⟨rfl,rfl⟩) | fail)
    clear HSL hn9 hext hU hZi hZ1
    generalize hw5:(((wr.alloc (.cells (strCs (pieces U slB)) 9)).alloc (.cells #[.slice (some ⟨wr.heap.size,0,none⟩) (pieces U slB).length (pieces U slB).length] 26)).alloc (.cells #[.slice none 0 0] 26)).alloc (.cells #[.int .i64 0] 3)=w5 at *
    obtain⟨hL,hlb,hob,hkb,hm5,hz5⟩:=boxes4 hw5
    have hwL:=hwr0.size
    have hw05:=hwr0.trans hm5
    clear hw5 hm5
    generalize hsg:pieces U slB=segs at *
    generalize wr.heap.size=L at *
    generalize hkbe:L+1+1+1=kb at *
    generalize hobe:L+1+1=ob at *
    generalize hlbe:L+1=lb at *
    refine(backward_any _ _ _ _).mono ?_
    rintro e w6 ⟨rfl,rfl⟩
    have hBs:=Blk.new w5 26 #[.slice (some ⟨L,0,none⟩) segs.length segs.length]
    have h56:New w5 (w5.alloc (.cells #[.slice (some ⟨L,0,none⟩) segs.length segs.length] 26)):=(Mod.refl _ _).alloc _
    have hz6:(w5.alloc (.cells #[.slice (some ⟨L,0,none⟩) segs.length segs.length] 26)).heap.size=w5.heap.size+1:=by simp
    have hL6:=hL.new2 h56
    have hlb6:=hlb.new2 h56
    have hob6:=hob.new2 h56
    have hkb6:=hkb.new2 h56
    have hw06:=hw05.trans h56
    clear hL hlb hob hkb hw05 h56
    generalize w5.alloc (.cells #[.slice (some ⟨L,0,none⟩) segs.length segs.length] 26)=w6 at *
    generalize w5.heap.size=Bs at *
    have HZ5:=hId hz5
    have HZ6:=hId hz6
    clear hz5 hz6
    go_wp2_with fail
    have hz5:=HZ5.out
    have hz6:=HZ6.out
    clear HZ5 HZ6
    have hN:PNum w.heap.size L lb ob kb Bs (Bs+1):=⟨hwL,by omega,by omega,by omega,by omega,by omega⟩
    have h0:PInv w L lb ob kb (Bs+1) segs.length [] w6:=⟨none,0,0,hlb6,hob6,hkb6,Own.nil,hw06,by omega⟩
    refine' wpIn_wide.1 (wpIn_rangeFunc_ownG (F:=Fence.wide) (n:=9) rfl (by decide) (gf:=191) (lb:=#[.pointer (some ⟨Bs,0,none⟩)]) rfl trivial (enters_of Tryz.func191 (by kernel_rfl) rfl)
     (back_stops Fence.wide 8 trivial rfl (by omega) Bs L 0 segs.length segs.length segs (by omega) w6 hBs.lt hL6.lt (hBs.cell 0) (fun j hj=>?_)) (fun h k=>Kept2.trans h k) (kept2_b hL6.lt hBs.lt) (Below.refl _ _) (fun _=>rfl)
     (PInv w L lb ob kb (Bs+1) segs.length) (fun _ _ _=>False) (PInv.own hw06.size) (fun _ _ _ _ _ hs _ _=>hs) h0 _ ?assign ?body ?done ?stop)
    ·have:=strs_at hL6 j hj
     rw [Nat.zero_add,this,List.getD_eq_getElem?_getD]
     rfl
    case assign=>
     intro l x W K hK
     gi_wp2
     exact hK
    case body=>
     clear hz5 hz6 hL6 hBs h0 hkbe hobe hlbe hwL hwr0 hw06 hlb6 hob6 hkb6 hsg
     rintro l pre ⟨x1,x2⟩ W ⟨A9,n9,c9,h1,h2,h3,h4,h5,h6⟩ hlt
     have hfs:=foldB_snoc segs.length pre (x1,x2)
     have hfl:=foldB_le segs.length pre
     generalize foldB segs.length pre=st at *
     obtain⟨out,skip⟩:=st
     simp only at h3 h4 hfl
     unfold stepB at hfs
     simp only at hfs
     have hol:out.length=n9:=h4.1
     have hn9:n9≤3001:=by omega
     have hk9:skip≤3001:=by omega
     have g1:=h1.cell 0
     have g2:=h2.cell 0
     have g3:=h3.cell 0
     have r1:=h1.frozen 0
     have r2:=h2.frozen 0
     have r3:=h3.frozen 0
     simp only [lqt,lqz]at g1 g2 g3
     have e1:=const_eq x2 [46]
     have e2:=const_eq x2 [46,46]
     have HFS:=hId hfs
     clear hfs
     have HN2:=hId hN
     have H1:=hId h1
     have H2:=hId h2
     have H3:=hId h3
     have H4:=hId h4
     have H5:=hId h5
     have H6:=hId h6
     have hWz:Bs+1≤W.heap.size:=h6
     have hb1:=h1.lt
     have hb2:=h2.lt
     have hb3:=h3.lt
     have hne1:ob≠kb:=by have:=hN;unfold PNum at this;omega
     have hne2:ob≠lb:=by have:=hN;unfold PNum at this;omega
     have hne3:kb≠lb:=by have:=hN;unfold PNum at this;omega
     clear h1 h2 h3 h4 h5 h6 hN
     by_cases hd1:x2=dot1
     ·rw [decide_eq_true hd1]at e1
      have hd2:¬ x2=dot2:=by rw [hd1];decide
      rw [decide_eq_false hd2]at e2
      by_cases hla:x1+1=segs.length
      ·have hla':((x1:Int) == (segs.length:Int) -1)=true:=by simp;omega
       have HF:Hid (foldB segs.length (pre++ [(x1,x2)])=(out++ [emptyB],skip)):=hId (by rw [HFS.out,if_pos (Or.inl hd1),if_pos hla,if_neg hd2])
       clear hd1 hd2 hla HFS
       have HOA:=hId (H4.out.alloc (.cells #[.string (⟨#[]⟩:ByteArray)] 9))
       have HBN:=hId (Blk.new W 9 #[.string (⟨#[]⟩:ByteArray)])
       have hBq:Bs+1≤(W.alloc (.cells #[.string (⟨#[]⟩:ByteArray)] 9)).heap.size:=by simp;omega
       gi_wp2_with (gi_at_builtin;refine wpListIn_push rfl _ _ _ rfl 16 Tryz.underlying26 einfo_str rfl HOA.out (⟨#[]⟩:ByteArray) W.heap.size rfl HBN.out (fun j hj=>sEnc_one _ j hj) (by omega) (by omega) hBq ?_;intro g8 cap8 w8 own8 hg8;obtain⟨hob8,hlb9,hob9,hkb9,own9,hm9⟩:=push_box HN2.out H1.out H2.out H3.out H4.out H6.out hg8 own8;have c8:=hob8.cell 0;have f8:=hob8.frozen 0;have k9:=hkb9.cell 0;have kf9:=hkb9.frozen 0;simp only [lqt,lqz]at c8 k9;have HL9:=hId hlb9;have HO9:=hId hob9;have HK9:=hId hkb9;have HW9:=hId own9;have HM9:=hId hm9;clear own8 hg8 hob8 hlb9 hob9 hkb9 own9 hm9)
       exact round_out HN2.out H2.out H3.out H4.out H5.out H6.out HF.out HM9.out HL9.out HO9.out HK9.out HW9.out
      ·have hla':((x1:Int) == (segs.length:Int) -1)=false:=by simp;omega
       have HF:Hid (foldB segs.length (pre++ [(x1,x2)])=(out,skip)):=hId (by rw [HFS.out,if_pos (Or.inl hd1),if_neg hla,if_neg hd2])
       clear hd1 hd2 hla HFS
       gi_wp2
       exact round_out HN2.out H2.out H3.out H4.out H5.out H6.out HF.out (Mod.refl _ _) H1.out H2.out H3.out H4.out
     ·rw [decide_eq_false hd1]at e1
      by_cases hd2:x2=dot2
      ·rw [decide_eq_true hd2]at e2
       by_cases hla:x1+1=segs.length
       ·have hla':((x1:Int) == (segs.length:Int) -1)=true:=by simp;omega
        have HF:Hid (foldB segs.length (pre++ [(x1,x2)])=(out++ [emptyB],skip+1)):=hId (by rw [HFS.out,if_pos (Or.inr hd2),if_pos hla,if_pos hd2])
        clear hd1 hd2 hla HFS
        have HOA:=hId (H4.out.alloc (.cells #[.string (⟨#[]⟩:ByteArray)] 9))
        have HBN:=hId (Blk.new W 9 #[.string (⟨#[]⟩:ByteArray)])
        have hBq:Bs+1≤(W.alloc (.cells #[.string (⟨#[]⟩:ByteArray)] 9)).heap.size:=by simp;omega
        gi_wp2_with (gi_at_builtin;refine wpListIn_push rfl _ _ _ rfl 16 Tryz.underlying26 einfo_str rfl HOA.out (⟨#[]⟩:ByteArray) W.heap.size rfl HBN.out (fun j hj=>sEnc_one _ j hj) (by omega) (by omega) hBq ?_;intro g8 cap8 w8 own8 hg8;obtain⟨hob8,hlb9,hob9,hkb9,own9,hm9⟩:=push_box HN2.out H1.out H2.out H3.out H4.out H6.out hg8 own8;have c8:=hob8.cell 0;have f8:=hob8.frozen 0;have k9:=hkb9.cell 0;have kf9:=hkb9.frozen 0;simp only [lqt,lqz]at c8 k9;have HL9:=hId hlb9;have HO9:=hId hob9;have HK9:=hId hkb9;have HW9:=hId own9;have HM9:=hId hm9;clear own8 hg8 hob8 hlb9 hob9 hkb9 own9 hm9)
        have p9:=put_kb (A':=A9) HN2.out HL9.out HO9.out _ HK9.out HW9.out (.int .i64 ((skip:Int)+1))
        exact round_out HN2.out H2.out H3.out H4.out H5.out H6.out HF.out (HM9.out.trans p9.2.2.2.2) p9.1 p9.2.1 p9.2.2.1 p9.2.2.2.1
       ·have hla':((x1:Int) == (segs.length:Int) -1)=false:=by simp;omega
        have HF:Hid (foldB segs.length (pre++ [(x1,x2)])=(out,skip+1)):=hId (by rw [HFS.out,if_pos (Or.inr hd2),if_neg hla,if_pos hd2])
        clear hd1 hd2 hla HFS
        gi_wp2
        have p9:=put_kb (A':=A9) HN2.out H1.out H2.out _ H3.out H4.out (.int .i64 ((skip:Int)+1))
        exact round_out HN2.out H2.out H3.out H4.out H5.out H6.out HF.out p9.2.2.2.2 p9.1 p9.2.1 p9.2.2.1 p9.2.2.2.1
      ·rw [decide_eq_false hd2]at e2
       by_cases hs0:0<skip
       ·have HF:Hid (foldB segs.length (pre++ [(x1,x2)])=(out,skip -1)):=hId (by rw [HFS.out,if_neg (fun h=>h.elim hd1 hd2),if_pos hs0])
        obtain⟨sk,rfl⟩:∃ sk,skip=sk+1:=⟨skip -1,by omega⟩
        have hs1:(0:Int)<((sk+1:Nat):Int):=by omega
        have hwk:((sk+1:Nat):Int) -1=(sk:Int):=by omega
        clear hd1 hd2 HFS
        gi_wp2
        have p9:=put_kb (A':=A9) HN2.out H1.out H2.out _ H3.out H4.out (.int .i64 (sk:Int))
        exact round_out HN2.out H2.out H3.out H4.out H5.out H6.out HF.out p9.2.2.2.2 p9.1 p9.2.1 p9.2.2.1 p9.2.2.2.1
       ·obtain rfl:skip=0:=by omega
        have HF:Hid (foldB segs.length (pre++ [(x1,x2)])=(out++ [x2],0)):=hId (by rw [HFS.out,if_neg (fun h=>h.elim hd1 hd2),if_neg hs0])
        clear hd1 hd2 HFS
        have HOA:=hId (H4.out.alloc (.cells #[.string x2] 9))
        have HBN:=hId (Blk.new W 9 #[.string x2])
        have hBq:Bs+1≤(W.alloc (.cells #[.string x2] 9)).heap.size:=by simp;omega
        gi_wp2_with (gi_at_builtin;refine wpListIn_push rfl _ _ _ rfl 16 Tryz.underlying26 einfo_str rfl HOA.out x2 W.heap.size rfl HBN.out (fun j hj=>sEnc_one _ j hj) (by omega) (by omega) hBq ?_;intro g8 cap8 w8 own8 hg8;obtain⟨hob8,hlb9,hob9,hkb9,own9,hm9⟩:=push_box HN2.out H1.out H2.out H3.out H4.out H6.out hg8 own8;have c8:=hob8.cell 0;have f8:=hob8.frozen 0;have k9:=hkb9.cell 0;have kf9:=hkb9.frozen 0;simp only [lqt,lqz]at c8 k9;have HL9:=hId hlb9;have HO9:=hId hob9;have HK9:=hId hkb9;have HW9:=hId own9;have HM9:=hId hm9;clear own8 hg8 hob8 hlb9 hob9 hkb9 own9 hm9)
        exact round_out HN2.out H2.out H3.out H4.out H5.out H6.out HF.out HM9.out HL9.out HO9.out HK9.out HW9.out
    case done=>
     clear h0
     rintro D ys W hD rfl ⟨A9,n9,c9,h1,h2,h3,h4,h5,h6⟩ hK
     have hsn:segs≠[]:=hne
     rw [foldB_all hsn]at h4
     have hds:=dots_same hsn
     have hQ:=HQ2.out
     have hle:=(foldB_le segs.length (upto (backF segs.length segs) segs.length)).1
     rw [foldB_all hsn,upto_length]at hle
     have hDlt:=heap_lt hK
     have hsz:=dotsF_size (Z:=3000) segs [] hpl (by simp)
     rw [← hds]at hQ hsz
     clear h1 h3 hds hsn
     generalize (dotsB segs.reverse true 0 []).1=out at *
     have hol:out.length=n9:=h4.1
     have g2:=h2.cell 0
     have r2:=h2.frozen 0
     simp only [lqt,lqz]at g2
     have hob:=h2.lt
     have HQ:=hId hQ
     have HK:=hId hK
     have H2:=hId h2
     have H4:=hId h4
     have H5:=hId h5
     have HD:=hId hD
     have HS:=hId hsz
     have HWL:=hId hw06.size
     clear hK h2 h4 h5 hD hsz hQ hpl hne hw06 hz5 hz6 hwL hBs hL6 hlb6 hob6 hkb6
     by_cases hn0:n9=0
     ·subst hn0
      obtain rfl:out= []:=List.eq_nil_of_length_eq_zero hol
      have hrv:=Tryz.slices_Reverse_string_empty A9 c9 W
      have hj0:=Tryz.strings_Join_none A9 c9 ⟨#[47]⟩ W
      go_wp2_with (first |(refine hrv.mono ?_;clear hrv;rintro e w3 ⟨rfl,hw⟩;rw [hw];clear hw) |(refine hj0.mono ?_;clear hj0;rintro e w3 ⟨rfl,hw⟩;rw [hw];clear hw))
      refine⟨by simp,.inl ⟨_,_,rfl,run_takeDeferred HK.out,_,results_tmp2 rfl _ _ _,?_⟩⟩
      exact⟨by rw [HQ.out];rfl,(H5.out).grown (grownBy_putObj' W D _) (fun q e=>by injection e with e;subst e;exact .inr (Nat.le_trans HWL.out HD.out))⟩
     ·rcases H4.out.blk with⟨_,h1,_⟩ |⟨g',rfl,hB,htb⟩
      ·exact absurd h1 hn0
      ·have HRV:=hId (rev_any H4.out)
       have hcap:n9≤c9:=H4.out.ncap
       have hne9:ob≠g':=by have:=hN;unfold PNum at this;omega
       have hDg:D≠g':=by
        rintro rfl
        obtain⟨cs,fr,hg⟩:=htb
        rw [HK.out]at hg
        injection hg with hg
        cases hg
       have hgl:=htb.lt
       have HB:=hId hB
       clear htb hB
       go_wp2_with fail
       refine HRV.out.mono ?_
       clear HRV
       rintro e w3 ⟨rfl,hm3,hc3⟩
       have g3:=(H2.out.mod hm3 hne9).cell 0
       simp only [lqt,lqz]at g3
       have hK3:w3.heap[D]? =some (.deferred (some [])):=(hm3.block D hDlt hDg).trans HK.out
       have HK3:=hId hK3
       have HM3:=hId ((H5.out).step hm3 (fun i hi e=>by have:=HB.out;have:=HWL.out;have:=hN;unfold PNum at this;omega))
       have hD3:D<w3.heap.size:=heap_lt hK3
       have hyl:out.reverse.length=n9:=by simpa using hol
       have hle2:(Lib.join (out.reverse.map (·.data.toList)) [47]).length≤n9 * 3001:=by
        have:=join_le [47] 3000 (out.reverse.map (·.data.toList)) (fun x hx=>by
         obtain⟨y,hy,rfl⟩:=List.mem_map.1 hx
         exact HS.out y hy)
        rw [List.length_map,hyl]at this
        exact this
       have hmul:n9 * 3001≤3001 * 3001:=Nat.mul_le_mul (by omega) (by omega)
       have hjn:=Tryz.strings_Join g' 0 c9 out.reverse ⟨#[47]⟩ w3 hc3 (Nat.lt_of_lt_of_le hgl hm3.size) (by omega) (by omega) (Nat.le_trans hle2 (by omega))
       rw [hyl,show(⟨#[47]⟩:ByteArray).data.toList= [47] from rfl]at hjn
       have hJz:(⟨(Lib.join (out.reverse.map (·.data.toList)) [47]).toArray⟩:ByteArray).size≤10000000:=by show(List.toArray _).size≤_;rw [List.size_toArray];omega
       have hJl:(⟨(Lib.join (out.reverse.map (·.data.toList)) [47]).toArray⟩:ByteArray).data.toList=Lib.join (out.reverse.map (·.data.toList)) [47]:=rfl
       have HF:Hid ((⟨#[47]⟩:ByteArray)++⟨(Lib.join (out.reverse.map (·.data.toList)) [47]).toArray⟩=⟨(slashed out.reverse).toArray⟩):=hId (by
        rw [← mkList ((⟨#[47]⟩:ByteArray)++⟨(Lib.join (out.reverse.map (·.data.toList)) [47]).toArray⟩),cat_list]
        rfl)
       clear hJl hle2 hmul
       generalize (⟨(Lib.join (out.reverse.map (·.data.toList)) [47]).toArray⟩:ByteArray)=J at *
       have s1:(⟨#[47]⟩:ByteArray).size=1:=rfl
       have hadd:¬ 9223372036854775807<(⟨#[47]⟩:ByteArray).size+J.size:=by omega
       have HJN:=hId hjn
       clear hc3 hjn hyl hm3 hK3
       go_wp2_with fail
       refine HJN.out.mono ?_
       clear HJN
       rintro e w4 ⟨rfl,hm4⟩
       have hmm4:New w3 w4:=Mod.of_below hm4
       have HM4:=hId (HM3.out.trans hmm4)
       have HK4:Hid (w4.heap[D]? =some (.deferred (some []))):=hId ((hmm4.block D hD3 (fun e=>e)).trans HK3.out)
       clear hm4 hmm4
       go_wp2_with fail
       refine⟨by simp,.inl ⟨_,_,rfl,run_takeDeferred HK4.out,_,results_tmp2 rfl _ _ _,?_⟩⟩
       exact⟨by rw [HQ.out];show _=Ending.returned (.tuple #[.string ⟨(slashed out.reverse).toArray⟩,.int .i64 0]);rw [← HF.out];rfl,(HM4.out).grown (grownBy_putObj' w4 D _) (fun q e=>by injection e with e;subst e;exact .inr (Nat.le_trans HWL.out HD.out))⟩
    case stop=>
     rintro D c pre W _ _ h _
     exact h.elim
theorem wordL_take {l:List UInt8} {k:Nat} (h:k<l.length):(l.take (k+1)).flatMap wordC=(l.take k).flatMap wordC++wordC l[k]:=by
 rw [List.take_succ_eq_append_getElem h,List.flatMap_append]
 simp
theorem free_at (c:UInt8):decide (0≤Lib.indexByte plainB2.data.toList c)=freeN c.toNat:=by
 revert c
 apply byteOf
 decide +kernel
theorem word_end (s:ByteArray):(s.data.toList.take s.size).flatMap wordC=wordQ s:=by
 have:s.data.toList.length=s.size:=rfl
 rw [← this,List.take_length]
 rfl
set_option maxRecDepth 100000 in
set_option maxHeartbeats 2000000 in
theorem msg_queryWord (s:ByteArray) (w:World) (hs:s.size≤300000):
  Calls Tryz.prog 206 #[.string s] w fun e w'=>e= .returned (.string ⟨(wordQ s).toArray⟩)∧New w w':=by
 have hb0:=Blk.new w 109 #[.pointer none,.slice none 0 0]
 have hm0:New w (w.alloc (.cells #[.pointer none,.slice none 0 0] 109)):=(Mod.refl _ _).alloc _
 go_enter Tryz.func206,Tryz.ntmps206
 go_upto_region 2 with(fail)
 generalize w.alloc (.cells #[.pointer none,.slice none 0 0] 109)=w1 at *
 generalize hbe:w.heap.size=B at *
 have HB:=hId (Bw.fresh hb0 (Nat.le_refl _))
 have HM:=hId hm0
 have HBE:=hId hbe
 clear hb0 hm0 hbe
 go_wp2_with fail
 go_loopw [8] (fun i wr=>∃(k:Nat) (o:List UInt8),k≤s.size∧i= .int .i64 k∧Hid ((s.data.toList.take k).flatMap wordC=o)∧Hid (o.length≤3 * k)∧Hid (Bw 109 B B o wr)∧Hid (New w wr)) (fun i _=>s.size -(intOf i).toNat)
 case atStart=>exact⟨0,[],Nat.zero_le _,rfl,hId rfl,hId (Nat.zero_le _),HB,HM⟩
 case round=>
  clear HB HM
  rename World=>wr
  obtain⟨k,o,hk,rfl,HS,HZ,HB,HM⟩:=hrel
  by_cases hlt:k<s.size
  ·have hkl:k<s.data.toList.length:=hlt
   have HS1:Hid ((s.data.toList.take (k+1)).flatMap wordC=o++wordC s[k]):=hId (by rw [wordL_take hkl,HS.out];rfl)
   have HZ1:Hid ((o++wordC s[k]).length≤3 * (k+1)):=hId (by have:=HZ.out;have:=wordC_length s[k];simp;omega)
   have HL:Hid (o.length+1≤1000000):=hId (by have:=HZ.out;omega)
   have HLL:Hid (o.length≤900000):=hId (by have:=HZ.out;omega)
   have hf:=msg_isFree s[k] wr
   have hpc:=msg_percent s[k] wr
   clear HS HZ
   by_cases h32:s[k]=32
   ·have c0:(s[k].toNat:Int)=32:=by rw [h32];rfl
    have c0b:((s[k].toNat:Int) == 32)=true:=by rw [h32];rfl
    have hq:wordC s[k]= [43]:=by unfold wordC;rw [if_pos h32]
    rw [hq]at HS1 HZ1
    clear hf hpc h32 hq
    go_wp2_with fail
    refine(bw_byte buT_self B B _ (43:UInt8) _ (by first | rfl |(exact HC.out.symm)) _ HB.out (by have hq:=HL.out;first | omega |(simp;done) |(simp at hq ⊢;omega))).mono ?_
    rintro e wz ⟨rfl,hb1,hm1,-⟩
    have HM1:=hId (HM.out.from hm1 (Nat.le_of_eq HBE.out))
    clear HB HM hm1
    have HB:=hId hb1
    have HM:=HM1
    clear hb1 HM1
    go_wp2_with fail
    go_roundw
    case rel=>exact⟨k+1,_,by omega,by go_num,HS1,HZ1,HB,HM⟩
    case measure=>simp [intOf];omega
   have c0:¬ (s[k].toNat:Int)=32:=fun h=>h32 (UInt8.toNat_inj.1 (by have:(32:UInt8).toNat=32:=rfl;omega))
   have c0b:((s[k].toNat:Int) == 32)=false:=beq_eq_false_iff_ne.2 c0
   cases h1:freeN s[k].toNat <;> rw [h1]at hf
   ·have hq:wordC s[k]= [37,upHex (s[k].toNat / 16),upHex (s[k].toNat % 16)]:=by unfold wordC pctC;rw [if_neg h32,h1];rfl
    rw [hq]at HS1 HZ1
    clear h1 h32 hq
    go_wp2_with (first |(refine hf.mono ?_;clear hf;rintro e w' ⟨rfl,rfl⟩) |(refine hpc.mono ?_;clear hpc;rintro e w2 ⟨rfl,hm2⟩))
    have HB2:=hId (HB.out.new hm2)
    have HM2:Hid (New w w2):=hId (HM.out.trans hm2)
    clear HB HM hm2
    have h3:(⟨#[37,upHex (s[k].toNat / 16),upHex (s[k].toNat % 16)]⟩:ByteArray).size=3:=rfl
    refine(bw_string buT_self B B o _ w2 HB2.out (by have:=HLL.out;omega)).mono ?_
    clear h3
    rintro e w3 ⟨rfl,hb3,hm3,-⟩
    have HM3:=hId (HM2.out.from hm3 (Nat.le_of_eq HBE.out))
    have HB3:=hId hb3
    clear hb3 hm3 HB2 HM2
    go_wp2_with fail
    go_roundw
    case rel=>exact⟨k+1,_,by omega,by go_num,HS1,HZ1,HB3,HM3⟩
    case measure=>simp [intOf];omega
   ·have hq:wordC s[k]= [s[k]]:=by unfold wordC;rw [if_neg h32,h1];rfl
    rw [hq]at HS1 HZ1
    clear h1 h32 hq hpc
    go_wp2_with (first |(refine hf.mono ?_;clear hf;rintro e w' ⟨rfl,rfl⟩))
    refine(bw_byte buT_self B B _ s[k] _ (by first | rfl |(exact HC.out.symm)) _ HB.out (by have hq:=HL.out;first | omega |(simp;done) |(simp at hq ⊢;omega))).mono ?_
    rintro e wz ⟨rfl,hb1,hm1,-⟩
    have HM1:=hId (HM.out.from hm1 (Nat.le_of_eq HBE.out))
    clear HB HM hm1
    have HB:=hId hb1
    have HM:=HM1
    clear hb1 HM1
    go_wp2_with fail
    go_roundw
    case rel=>exact⟨k+1,_,by omega,by go_num,HS1,HZ1,HB,HM⟩
    case measure=>simp [intOf];omega
  ·obtain rfl:k=s.size:=by omega
   have HN:=hId (HS.out.symm.trans (word_end s))
   go_wp2_with fail
   refine(bw_any B B o _ HB.out).mono ?_
   rintro e w2 ⟨rfl,hm2⟩
   have HM2:=hId (HM.out.from hm2 (Nat.le_of_eq HBE.out))
   clear hm2 HB HM
   go_wp2_with fail
   go_ret
   exact⟨by rw [HN.out];rfl,HM2.out⟩
end Go.Proofs.YtnlloaimplgjnaaGreatDoor
