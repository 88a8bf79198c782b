/- Several texts in one. (1) A strings.Builder wherever it lies: alone, or as the first thing of another struct (the block's type is T). The walks are the shelf's own, at a block of any type. Conditions: modest sizes. (2) A Builder's bytes in the words of these texts. Conditions: modest sizes. (3) A region that draws its order: its head only reads, or calls what stays in a class of worlds; its last operations come in one forced order and may do anything. One walk serves every order. No conditions beside the region's own form. (4) Segments of paths: their units read and written (package message). Conditions: strings of modest size. (5) Segments of paths: units decoded and segments written (package message). Conditions: strings of modest size. -/
import Derived.Test.YtnlloaimplgjnaaGreatDoorMatLawGrp
import Derived.Test.YtnlloaimplgjnaaGreatDoorShelf
import Derived.Shelf.Strings.Builder1
import Derived.Test.YtnlloaimplgjnaaGreatDoorBase
import Derived.StillTail
import Derived.Deep.Quiet
import Derived.Test.YtnlloaimplgjnaaGreatDoorHexGrp
import Derived.Laws.BytesArg
namespace Go.Proofs.YtnlloaimplgjnaaGreatDoor
open Go.RowKit
set_option linter.unusedVariables false
set_option linter.unusedSimpArgs false
/-- a block of type T of two cells begins with a Builder -/
structure BuT (T:TypeId):Prop where
 lies:liesAt Tryz.prog Tryz.prog.depth T (2 / Tryz.prog.cellsOf T) 0 109 1=true
 ne:T≠5
theorem buT_self:BuT 109:=⟨by kernel_rfl,by decide⟩
theorem sizeBuilder:(Tryz.prog.info? 109).map (·.size)=some 2:=by kernel_rfl
theorem infoByte:(Tryz.prog.info? 5).map (fun i=>(i.zero,i.size,i.bytes))=some (some (.int .u8 0),1,1):=by kernel_rfl
/-- every block but b that is no plain row of bytes stays as it was -/
def Keep (b:Nat) (w w':World):Prop:=∀ k,k<w.heap.size→k≠b→(∀ cur,w.heap[k]?≠some (.cells cur 5 (0,0)))→w'.heap[k]? =w.heap[k]?
theorem Keep.check {b:Nat} {w w1:World} (h:w1=w∨w1=w.setCell ⟨b,0,none⟩ (.pointer (some ⟨b,0,none⟩))) (k:Nat) (hk:k≠b):w1.heap[k]? =w.heap[k]?:=by
 rcases h with rfl | rfl
 ·rfl
 ·simp only [World.setCell]
  rw [Array.getElem?_modify,if_neg (Ne.symm hk)]
section
variable {T:TypeId}
set_option maxHeartbeats 1000000 in
set_option maxRecDepth 100000 in
theorem bu_check_used (b:Nat) (w:World) (h0:w.cell? ⟨b,0,none⟩=some (.pointer (some ⟨b,0,none⟩))):
  Calls Tryz.prog 137 #[.pointer (some ⟨b,0,none⟩)] w fun e w'=>e= .returned (.tuple #[])∧w'=w:=by
 obtain⟨j,hj,_⟩:=Option.map_eq_some_iff.1 sizeBuilder
 go_enter Tryz.func137,Tryz.ntmps137
 go_wp2
 rw [Lib.run_neq_ptr_same w _ Tryz.underlying106 hj]
 go_wp2
 go_end0
 exact⟨rfl,rfl⟩
set_option maxHeartbeats 1000000 in
set_option maxRecDepth 100000 in
theorem bu_check_fresh (hT:BuT T) (b:Nat) (w:World) (h0:w.cell? ⟨b,0,none⟩=some (.pointer none)) (hsh:w.shape? b=some (T,2)) (hfz:w.frozen? ⟨b,0,none⟩=false):
  Calls Tryz.prog 137 #[.pointer (some ⟨b,0,none⟩)] w fun e w'=>e= .returned (.tuple #[])∧w'=w.setCell ⟨b,0,none⟩ (.pointer (some ⟨b,0,none⟩)):=by
 obtain⟨j,hj,hjs⟩:=Option.map_eq_some_iff.1 sizeBuilder
 go_enter Tryz.func137,Tryz.ntmps137
 go_wp2
 rw [Lib.run_to_unsafe w ⟨b,0,none⟩ Tryz.underlying106 Tryz.underlying204 hj (by rw [hjs];decide) hsh (Nat.zero_lt_succ 1)]
 simp only [Result.andThen]
 rw [Oper.upon_value]
 go_wp2
 rw [run_callFunc_extern Tryz.func197 (by kernel_rfl) (by kernel_rfl) (by kernel_rfl) (e:=Extern.AbiNoEscape.same) (by kernel_rfl)]
 rw [Lib.run_noEscape]
 simp only [Result.andThen]
 rw [Oper.upon_value]
 go_wp2
 rw [Lib.run_from_unsafe w ⟨b,0,none⟩ Tryz.underlying204 Tryz.underlying106 hj hsh hT.lies]
 simp only [Result.andThen]
 rw [Oper.upon_value]
 go_wp2
 go_end0
 exact⟨rfl,rfl⟩
theorem bu_check (hT:BuT T) (B b:Nat) (bs:List Value) (w:World) (h:Lib.IsBuilder T 5 B b bs w):
  Calls Tryz.prog 137 #[.pointer (some ⟨b,0,none⟩)] w fun e w'=>e= .returned (.tuple #[])∧(Lib.BuilderAt T 5 B b (.pointer (some ⟨b,0,none⟩)) bs w'∧Below B w w'∧(w'=w∨w'=w.setCell ⟨b,0,none⟩ (.pointer (some ⟨b,0,none⟩)))):=by
 rcases h with h | h
 ·refine(bu_check_fresh hT b w h.cell0 h.shape h.frozen0).mono ?_
  rintro e w' ⟨rfl,rfl⟩
  exact⟨rfl,h.used _,(Below.refl B w).setCell (p:=⟨b,0,none⟩) h.1 _,.inr rfl⟩
 ·refine(bu_check_used b w h.cell0).mono ?_
  rintro e w' ⟨rfl,rfl⟩
  exact⟨rfl,h,Below.refl B _,.inl rfl⟩
set_option maxHeartbeats 1000000 in
set_option maxRecDepth 100000 in
theorem bu_len (B b:Nat) (bs:List Value) (w:World) (h:Lib.IsBuilder T 5 B b bs w):
  Calls Tryz.prog 72 #[.pointer (some ⟨b,0,none⟩)] w fun e w'=>e= .returned (.int .i64 bs.length)∧w'=w:=by
 obtain⟨p,hB,v,hbk,hown,hne⟩:∃ p,Lib.BuilderAt T 5 B b p bs w:=by
  rcases h with h | h
  ·exact⟨_,h⟩
  ·exact⟨_,h⟩
 obtain⟨ao,cap,rfl⟩:∃ ao cap,v= .slice ao bs.length cap:=by
  rcases hown.2 with⟨hv,h0⟩ |⟨g,cap,cur,hv,_⟩
  ·exact⟨none,0,by rw [hv,h0]⟩
  ·exact⟨_,_,hv⟩
 have c1:w.cell? ⟨b,1,none⟩=some (.slice ao bs.length cap):=by rw [Lib.cell_of_heap hbk];rfl
 go_enter Tryz.func72,Tryz.ntmps72
 go_wp2
 go_ret
 exact⟨rfl,rfl⟩
set_option maxHeartbeats 2000000 in
set_option maxRecDepth 100000 in
theorem bu_byte (hT:BuT T) (B b:Nat) (bs:List Value) (c:Int) (w:World) (h:Lib.IsBuilder T 5 B b bs w) (hlen:bs.length+1≤140737488355328) (hBw:B≤w.heap.size):
  Calls Tryz.prog 156 #[.pointer (some ⟨b,0,none⟩),.int .u8 c] w fun e w'=>e= .returned .nilIface∧(Lib.BuilderAt T 5 B b (.pointer (some ⟨b,0,none⟩)) (bs++ [.int .u8 c]) w'∧Below B w w'∧Keep b w w'):=by
 obtain⟨i0,hi,hz0,hz1,hz2⟩:=info_parts infoByte
 go_enter Tryz.func156,Tryz.ntmps156
 go_wp2_with fail
 refine(bu_check hT B b bs _ h).mono ?_
 rintro e w1 ⟨rfl,h1,hb1,hck⟩
 have HCK:=hId hck
 clear hck
 obtain⟨hB,v,hbk,hown,hne⟩:=h1
 have c0:w1.cell? ⟨b,0,none⟩=some (.pointer (some ⟨b,0,none⟩)):=by rw [Lib.cell_of_heap hbk];rfl
 have c1:w1.cell? ⟨b,1,none⟩=some v:=by rw [Lib.cell_of_heap hbk];rfl
 go_wp2_with (at_builtin;refine wpList_append_own _ rfl _ _ 107 rfl B 5 i0 (.int .u8 0) 1 1 Tryz.underlying107 hi hz0 hz1 hz2 rfl (by decide) _ _ _ rfl (hown.alloc _) ⟨w1.heap.size,0,none⟩ 1 1 [.int .u8 c] rfl rfl ?c1 ?c2 ?c3 ?c4 ?c5 ?_)
 case c1=>
  intro j u hj
  match j,hj with
  | 0,hj=>simp at hj;subst hj;simp [Addr.add]
 case c2=>intro u hu;simp at hu;subst hu;rfl
 case c3=>unfold maxLen;omega
 case c4=>omega
 case c5=>have:=hb1.size;simp;omega
 intro v' w2 hown' hgrow _
 have hlt:b<w1.heap.size:=heap_lt hbk
 have hb2:w2.heap[b]? =some (.cells #[.pointer (some ⟨b,0,none⟩),v] T (0,0)):=by
  rw [hgrow.block b (by simp;omega) (fun e=>hne e.symm),Lib.alloc_old w1 _ b hlt]
  exact hbk
 have d0:w2.cell? ⟨b,0,none⟩=some (.pointer (some ⟨b,0,none⟩)):=by rw [Lib.cell_of_heap hb2];rfl
 have d1:w2.cell? ⟨b,1,none⟩=some v:=by rw [Lib.cell_of_heap hb2];rfl
 have f1:w2.frozen? ⟨b,1,none⟩=false:=Lib.frozen_of_heap hb2 1
 obtain⟨g,cap,rfl⟩:∃ g cap,v'= .slice (some ⟨g,0,none⟩) (bs.length+1) cap:=by
  rcases hown'.2 with⟨_,h0⟩ |⟨g,cap,cur,hv,_⟩
  ·omega
  ·exact⟨g,cap,hv⟩
 go_wp2
 go_ret
 refine⟨rfl,?_,?_,?_⟩
 ·exact Lib.BuilderAt.put (T:=T) (e:=5) hB hb2 (bs':=bs++ [.int .u8 c]) (by simpa using hown') hT.ne
 ·exact((hb1.alloc (by have:=hb1.size;omega) _).grown hgrow (by have:=hb1.size;simp;omega) (fun k hk=>(hown.lt k hk).1)).setCell (p:=⟨b,1,none⟩) hB _
 ·intro k hk hkb hfr
  have h0:=Keep.check HCK.out k hkb
  have hk1:k<w1.heap.size:=by have:=hb1.size;omega
  have hno:some k≠v.ownBlock:=fun e=>by
   rcases hown.2 with⟨hv,_⟩ |⟨g,cap,cur,hv,_,hg,_⟩
   ·rw [hv]at e;simp [Value.ownBlock]at e
   ·rw [hv]at e
    simp only [Value.ownBlock,Option.some.injEq]at e
    subst e
    exact hfr _ (h0.symm.trans hg)
  have h2:w2.heap[k]? =w1.heap[k]?:=(hgrow.block k (by simp;omega) hno).trans (Lib.alloc_old w1 _ k hk1)
  rw [← h0,←h2]
  simp only [World.setCell]
  rw [Array.getElem?_modify,if_neg (Ne.symm hkb)]
set_option maxHeartbeats 2000000 in
set_option maxRecDepth 100000 in
theorem bu_string (hT:BuT T) (B b:Nat) (bs:List Value) (s:ByteArray) (w:World) (h:Lib.IsBuilder T 5 B b bs w) (hlen:bs.length+s.size≤140737488355328) (hBw:B≤w.heap.size):
  Calls Tryz.prog 71 #[.pointer (some ⟨b,0,none⟩),.string s] w fun e w'=>e= .returned (.tuple #[.int .i64 s.size,.nilIface])∧(Lib.BuilderAt T 5 B b (.pointer (some ⟨b,0,none⟩)) (bs++Lib.strCells s) w'∧Below B w w'∧Keep b w w'):=by
 obtain⟨i0,hi,hz0,hz1,hz2⟩:=info_parts infoByte
 go_enter Tryz.func71,Tryz.ntmps71
 go_wp2_with fail
 refine(bu_check hT B b bs _ h).mono ?_
 rintro e w1 ⟨rfl,h1,hb1,hck⟩
 have HCK:=hId hck
 clear hck
 obtain⟨hB,v,hbk,hown,hne⟩:=h1
 have c0:w1.cell? ⟨b,0,none⟩=some (.pointer (some ⟨b,0,none⟩)):=by rw [Lib.cell_of_heap hbk];rfl
 have c1:w1.cell? ⟨b,1,none⟩=some v:=by rw [Lib.cell_of_heap hbk];rfl
 go_wp2_with (at_builtin;refine Lib.wpList_append_own_string _ rfl _ _ 107 9 rfl B 5 i0 Tryz.underlying107 Tryz.underlying9 hi hz0 hz1 hz2 _ _ _ rfl hown s rfl ?c3 ?c4 ?c5 ?_)
 case c3=>unfold maxLen;omega
 case c4=>omega
 case c5=>have:=hb1.size;omega
 intro v' w2 hown' hgrow _
 have hlt:b<w1.heap.size:=heap_lt hbk
 have hb2:w2.heap[b]? =some (.cells #[.pointer (some ⟨b,0,none⟩),v] T (0,0)):=by
  rw [hgrow.block b hlt (fun e=>hne e.symm)]
  exact hbk
 have d0:w2.cell? ⟨b,0,none⟩=some (.pointer (some ⟨b,0,none⟩)):=by rw [Lib.cell_of_heap hb2];rfl
 have d1:w2.cell? ⟨b,1,none⟩=some v:=by rw [Lib.cell_of_heap hb2];rfl
 have f1:w2.frozen? ⟨b,1,none⟩=false:=Lib.frozen_of_heap hb2 1
 obtain⟨ao,n',cap,rfl⟩:∃ ao n' cap,v'= .slice ao n' cap:=by
  rcases hown'.2 with⟨hv,_⟩ |⟨g,cap,cur,hv,_⟩
  ·exact⟨_,_,_,hv⟩
  ·exact⟨_,_,_,hv⟩
 go_wp2
 go_ret2
 refine⟨rfl,?_,?_,?_⟩
 ·exact Lib.BuilderAt.put (T:=T) (e:=5) hB hb2 (bs':=bs++Lib.strCells s) (by simpa [Lib.strCells_length]using hown') hT.ne
 ·exact(hb1.grown hgrow (by have:=hb1.size;omega) (fun k hk=>(hown.lt k hk).1)).setCell (p:=⟨b,1,none⟩) hB _
 ·intro k hk hkb hfr
  have h0:=Keep.check HCK.out k hkb
  have hk1:k<w1.heap.size:=by have:=hb1.size;omega
  have hno:some k≠v.ownBlock:=fun e=>by
   rcases hown.2 with⟨hv,_⟩ |⟨g,cap,cur,hv,_,hg,_⟩
   ·rw [hv]at e;simp [Value.ownBlock]at e
   ·rw [hv]at e
    simp only [Value.ownBlock,Option.some.injEq]at e
    subst e
    exact hfr _ (h0.symm.trans hg)
  have h2:w2.heap[k]? =w1.heap[k]?:=hgrow.block k hk1 hno
  rw [← h0,←h2]
  simp only [World.setCell]
  rw [Array.getElem?_modify,if_neg (Ne.symm hkb)]
end
/-- a Builder at the head of block b (of type T) that holds the bytes l, its buffer from B on -/
abbrev Bw (T:TypeId) (B b:Nat) (l:List UInt8) (w:World):Prop:=Lib.IsBuilder T 5 B b (Lib.byteCells l) w
theorem Mod.of_belowB {B:Nat} {w w':World} (h:Below B w w'):Mod (fun k=>B≤k) w w':=
 ⟨h.os,h.tape,h.output,h.size,fun i hi hs=>h.block i (by omega)⟩
theorem New.grownBy {w w':World} (h:New w w') (row:Option Nat):w.grownBy w' row:=
 ⟨h.os,h.tape,h.output,h.size,fun k hk _=>h.block k hk (fun e=>e)⟩
/-- what turned from B on, where w ends, is new -/
theorem New.from {B:Nat} {w w1 w2:World} (h:New w w1) (hm:Mod (fun k=>B≤k) w1 w2) (hB:w.heap.size≤B):New w w2:=
 h.step hm (fun i hi e=>by omega)
theorem Keep.refl (b:Nat) (w:World):Keep b w w:=fun _ _ _ _=>rfl
theorem Keep.new {b:Nat} {w w':World} (h:New w w'):Keep b w w':=fun k hk _ _=>h.block k hk (fun e=>e)
theorem Keep.trans {b:Nat} {w w1 w2:World} (h:Keep b w w1) (h1:Keep b w1 w2) (hs:w.heap.size≤w1.heap.size):Keep b w w2:=fun k hk hb hf=>by
 have e:=h k hk hb hf
 exact(h1 k (by omega) hb (fun cur=>by rw [e];exact hf cur)).trans e
theorem Blk.keep {b k:Nat} {t:TypeId} {cs:Array Value} {w w':World} (h:Blk w k t cs) (hkp:Keep b w w') (hk:k≠b) (ht:t≠5):Blk w' k t cs:=
 (hkp k (heap_lt h) hk (fun cur e=>by
  rw [show w.heap[k]? =some (.cells cs t (0,0)) from h]at e
  injection e with e
  injection e with _ e2
  exact ht e2)).trans h
theorem Mod.keep {b B:Nat} {w w':World} (hm:Mod (fun k=>B≤k) w w') (hkp:Keep b w w'):Mod (fun k=>k=b∨TB w k 5) w w':=
 ⟨hm.os,hm.tape,hm.output,hm.size,fun i hi hs=>hkp i hi (fun e=>hs (.inl e)) (fun cur e=>hs (.inr ⟨cur,_,e⟩))⟩
section
variable {T:TypeId}
theorem Bw.fresh {w:World} {B b:Nat} (hb:Blk w b T #[.pointer none,.slice none 0 0]) (hB:B≤b):Bw T B b [] w:=
 .inl ⟨hB,.slice none 0 0,hb,World.ownsRow_nil _ _ _ _,by simp [Value.ownBlock]⟩
theorem Bw.new {B b:Nat} {l:List UInt8} {w w':World} (h:Bw T B b l w) (hm:New w w'):Bw T B b l w':=by
 have key:∀ p,Lib.BuilderAt T 5 B b p (Lib.byteCells l) w→Lib.BuilderAt T 5 B b p (Lib.byteCells l) w':=fun p ⟨h1,v,h2,h3,h4⟩=>
  ⟨h1,v,(hm.block b (heap_lt h2) (fun e=>e)).trans h2,h3.kept (hm.grownBy none) (by cases v.ownBlock with | none=>exact .inl rfl | some k=>exact .inr (by simp)),h4⟩
 exact h.imp (key _) (key _)
theorem Bw.lt {B b:Nat} {l:List UInt8} {w:World} (h:Bw T B b l w):B≤b∧b<w.heap.size:=by
 rcases h with⟨h1,v,h2,_⟩ |⟨h1,v,h2,_⟩
 ·exact⟨h1,heap_lt h2⟩
 ·exact⟨h1,heap_lt h2⟩
theorem bw_string (hT:BuT T) (B b:Nat) (l:List UInt8) (s:ByteArray) (w:World) (h:Bw T B b l w) (hn:l.length+s.size≤1000000):
  Calls Tryz.prog 71 #[.pointer (some ⟨b,0,none⟩),.string s] w fun e w'=>e= .returned (.tuple #[.int .i64 s.size,.nilIface])∧Bw T B b (l++s.data.toList) w'∧Mod (fun k=>B≤k) w w'∧Keep b w w':=by
 have hlt:=h.lt
 refine(bu_string hT B b (Lib.byteCells l) s w h (by rw [Lib.byteCells_length];omega) (by omega)).mono ?_
 rintro e w' ⟨rfl,hb,hm,hkp⟩
 refine⟨rfl,.inr ?_,Mod.of_belowB hm,hkp⟩
 rw [Lib.byteCells_append,←Lib.strCells_eq]
 exact hb
theorem bw_byte (hT:BuT T) (B b:Nat) (l:List UInt8) (c:UInt8) (n:Int) (hc:n=c.toNat) (w:World) (h:Bw T B b l w) (hn:l.length+1≤1000000):
  Calls Tryz.prog 156 #[.pointer (some ⟨b,0,none⟩),.int .u8 n] w fun e w'=>e= .returned .nilIface∧Bw T B b (l++ [c]) w'∧Mod (fun k=>B≤k) w w'∧Keep b w w':=by
 subst hc
 have hlt:=h.lt
 refine(bu_byte hT B b (Lib.byteCells l) c.toNat w h (by rw [Lib.byteCells_length];omega) (by omega)).mono ?_
 rintro e w' ⟨rfl,hb,hm,hkp⟩
 refine⟨rfl,.inr ?_,Mod.of_belowB hm,hkp⟩
 rw [Lib.byteCells_append]
 exact hb
theorem bw_len (B b:Nat) (l:List UInt8) (w:World) (h:Bw T B b l w):
  Calls Tryz.prog 72 #[.pointer (some ⟨b,0,none⟩)] w fun e w'=>e= .returned (.int .i64 l.length)∧w'=w:=by
 have:=bu_len B b (Lib.byteCells l) w h
 rwa [Lib.byteCells_length]at this
end
end Go.Proofs.YtnlloaimplgjnaaGreatDoor
namespace Go.Proofs.YtnlloaimplgjnaaGreatDoor
open Go Go.RowKit
set_option linter.unusedVariables false
set_option linter.unusedSimpArgs false
section
variable {P:Program} {ops:Array Oper} {md:Region.Mode} {C:World→Prop}
/-- whatever order the head is carried out in, it ends in L -/
def headQ (P:Program) (md:Region.Mode) (ops:Array Oper) (C:World→Prop) (n:Nat) (L:Array Bool→Act→Prop):Nat→Array Bool→Act→Prop
 | 0,listed,a=>L listed a
 | f+1,listed,a=>Region.ready md ops listed≠[]∧∀ i∈Region.ready md ops listed,i<n∧qOp P ops C i (headQ P md ops C n L f (listed.setIfInBounds i true)) a
theorem wpAny_of_headQ {n g:Nat} {L:Array Bool→Act→Prop} {Q':Exit→Act→World→Prop} (hL:∀ listed a w,C w→L listed a→wpAny P md ops Q' g listed a w):
  ∀(f:Nat) (listed:Array Bool) (a:Act) (w:World),C w→headQ P md ops C n L f listed a→wpAny P md ops Q' (f+g) listed a w
 | 0,listed,a,w,hw,h=>by rw [Nat.zero_add];exact hL _ _ _ hw h
 | f+1,listed,a,w,hw,h=>by
  rw [show f+1+g=(f+g)+1 by omega]
  exact⟨fun h0=>absurd h0 h.1,fun i hi=>wpOp_of_qOp hw (fun a' w' hw' h'=>wpAny_of_headQ hL f _ a' w' hw' h') (h.2 i hi).2⟩
theorem headQ_first {n i:Nat} {oi:Oper} {v:Value} {L:Array Bool→Act→Prop} (hi:ops[i]? =some oi) (hsel:∀(j:Nat) (o:Oper) cs b,ops[j]? =some o→o.op≠.select cs b)
  (hs:Region.sinkB md ops n=true) (hc:Region.chainB md ops n=true) (hn:n<ops.size) (hin:i<n)
  (hdone:∀ listed a,L listed a→∀ j∈Region.ready md ops listed,n≤j):
  ∀(f:Nat) (listed:Array Bool) (a:Act),HeadInv md ops n listed→
   (∀ j oj,ops[j]? =some oj→j≠i→listed.getD j true=false→(∀ e∈oj.after,Region.binds md e=true→e.on≠i)→oi.apart ops oj=true)→
   i∈Region.ready md ops listed→YieldsIn P ops C oi v a→
   headQ P md ops C n L f (listed.setIfInBounds i true) (a.put oi.dst v)→headQ P md ops C n L (f+1) listed a:=by
 intro f
 have before:∀(listed:Array Bool) (a:Act),HeadInv md ops n listed→i∈Region.ready md ops listed→∀ j∈Region.ready md ops listed,j<n:=by
  intro listed a inv hr j hj
  rcases Nat.lt_or_ge j n with h | h
  ·exact h
  ·exact absurd hj (tail_waits hs hc hn inv _ i rfl hin (mem_ready.1 hr).1 j h)
 induction f with
 | zero=>
  intro listed a inv _ hr hy H
  refine⟨fun h=>(by rw [h]at hr;cases hr),fun j hj=>?_⟩
  have hjn:=before listed a inv hr j hj
  refine⟨hjn,?_⟩
  by_cases hji:j=i
  ·subst hji;exact hy.qOp hi H
  ·have:=hdone _ _ H j (ready_mono hj hji)
   omega
 | succ f ih=>
  intro listed a inv hfree hr hy H
  refine⟨fun h=>(by rw [h]at hr;cases hr),fun j hj=>?_⟩
  have hjn:=before listed a inv hr j hj
  refine⟨hjn,?_⟩
  by_cases hji:j=i
  ·subst hji;exact hy.qOp hi H
  ·have h1:=(H.2 j (ready_mono hj hji)).2
   obtain⟨hjun,oj,hoj,hall⟩:=mem_ready.1 hj
   have hnot:∀ e∈oj.after,Region.binds md e=true→e.on≠i:=fun e he hb heq=>by
    have h1:=hall e he hb
    rw [heq,getD_both (mem_ready.1 hr).1]at h1
    cases h1
   have h2:=qOp_put hoj (hfree j oj hoj hji hjun hnot) (fun cs b=>hsel i oi cs b hi) (fun cs b=>hsel j oj cs b hoj) hy h1
   have hfree':∀ k ok,ops[k]? =some ok→k≠i→(listed.setIfInBounds j true).getD k true=false→
     (∀ e∈ok.after,Region.binds md e=true→e.on≠i)→oi.apart ops ok=true:=fun k ok hk hki hun hno=>by
    refine hfree k ok hk hki ?_ hno
    by_cases hjk:j=k
    ·subst hjk;exact hjun
    ·rw [getD_set_ne true hjk]at hun;exact hun
   refine qOp_mono (fun a' h3=>ih (listed.setIfInBounds j true) a' (inv.set hj hjn) hfree' (ready_mono hr (Ne.symm hji)) h3.1 ?_) h2
   rw [Array.setIfInBounds_comm _ _ hji]
   exact h3.2
theorem headQ_lex {n g:Nat} {Lq:Act→Prop} (hsel:Region.noSelect ops=true) (hs:Region.sinkB md ops n=true) (hc:Region.chainB md ops n=true) (hn:n<ops.size):
  ∀(l:List Oper) (k:Nat) (listed:Array Bool) (a:Act),(∀ j,j<l.length→l[j]? =ops[k+j]?)→k+l.length=n→HeadInv md ops n listed→
  Region.lexHead md ops g l.length k listed=true→wpQuiet P ops C Lq l a→
  headQ P md ops C n (fun listed' a'=>Region.seqB md ops g n listed'=true∧Lq a') l.length listed a
 | [],k,listed,a,_,hk,_,hB,h=>by
  have:k=n:=by simpa using hk
  subst this
  exact⟨by simpa [Region.lexHead]using hB,h⟩
 | o::l,k,listed,a,hl,hk,inv,hB,h=>by
  have h0:ops[k]? =some o:=by simpa using(hl 0 (by simp)).symm
  simp only [List.length_cons,Region.lexHead,Bool.and_eq_true]at hB
  obtain⟨⟨hr,hf⟩,hB'⟩:=hB
  have hkn:k<n:=by simp only [List.length_cons]at hk;omega
  have hr':k∈Region.ready md ops listed:=by simpa using hr
  have hst:qOp P ops C k (wpQuiet P ops C Lq l) a:=by unfold qOp;simp only [h0];exact h
  obtain⟨v,hy,hK⟩:=yieldsIn_of_qOp h0 hst
  exact headQ_first h0 (Region.noSelect_spec hsel) hs hc hn hkn (fun listed' a' hL=>seqB_ready hL.1) l.length listed a inv (Region.free_spec h0 hf) hr' hy
   (headQ_lex hsel hs hc hn l (k+1) _ _ (fun j hj=>by have:=hl (j+1) (by simp;omega);simpa [Nat.add_assoc,Nat.add_comm 1 j]using this) (by simp only [List.length_cons]at hk;omega) (inv.set hr' hkn) hB' hK)
/-- the head's n operations are quiet in the class C; the others come in their order, from whatever world of C -/
theorem wp_region_quiet_tail_of {id:Nat} {Q:Exit→Act→World→Prop} {a:Act} {w:World} {l:List Oper} (n:Nat) (hm:P.follows .mixedOrders=true) (hB:Region.lexTailB .any l.toArray n=true) (hC:C {w with drawn:=w.drawn+1})
  (h:wpQuiet P l.toArray C (fun a'=>∀ w',C w'→wpList P l.toArray Q (l.drop n) a' w') (l.take n) a):(Code.region id l.toArray true).wp P Q a w:=by
 simp only [Region.lexTailB,Bool.and_eq_true,decide_eq_true_eq]at hB
 obtain⟨⟨⟨⟨hsel,hn⟩,hs⟩,hc⟩,hlex⟩:=hB
 have hn':n<l.length:=by simpa using hn
 have htl:(l.take n).length=n:=by simp;omega
 have hdl:(l.drop n).length=l.toArray.size -n:=by simp
 have inv0:HeadInv .any l.toArray n (Array.replicate l.toArray.size false):=
  ⟨by simp,fun j oj _ hl=>(by rw [getD_replicate_false]at hl;cases hl),fun t _ ht=>getD_in (by simpa using ht) (getD_replicate_false _ _)⟩
 have H:=headQ_lex (C:=C) (md:=.any) (g:=l.toArray.size -n) hsel hs hc hn (l.take n) 0 _ a (fun j hj=>by
  have hj':j<n:=by rw [htl]at hj;exact hj
  simp [hj']) (by simpa using htl) inv0 (by rw [htl];exact hlex) h
 refine wp_region_any hm ?_
 have:=wpAny_of_headQ (Q':=Q) (g:=l.toArray.size -n) (fun listed a' w' hw' hL=>by
  have:=wpAny_of_seq (md:=.any) (Q':=Q) (l.drop n) n listed a' w' (fun j=>by simp [List.getElem?_drop]) (by rw [hdl];exact hL.1) (hL.2 w' hw')
  rwa [hdl]at this) _ _ _ _ hC H
 rw [htl,show n+(l.toArray.size -n)=l.toArray.size by omega]at this
 exact this
/-- at the class 'w after some draws' -/
theorem wp_region_quiet_tail {id:Nat} {Q:Exit→Act→World→Prop} {a:Act} {w:World} {l:List Oper} (n:Nat) (hm:P.follows .mixedOrders=true) (hB:Region.lexTailB .any l.toArray n=true)
  (h:wpQuiet P l.toArray (fun w'=>∃ n,w'=w.drewN n) (fun a'=>∀ w',(∃ n,w'=w.drewN n)→wpList P l.toArray Q (l.drop n) a' w') (l.take n) a):(Code.region id l.toArray true).wp P Q a w:=
 wp_region_quiet_tail_of (C:=fun w'=>∃ n,w'=w.drewN n) n hm hB ⟨1,rfl⟩ h
end
theorem byteBack (c:UInt8):((c.toNat:Int)).toNat.toUInt8=c:=by simp
theorem free4_at (c:UInt8):decide (0≤Lib.indexByte [45,46,95,126] c)=(decide (c.toNat=45)||decide (c.toNat=46)||decide (c.toNat=95)||decide (c.toNat=126)):=by
 revert c
 apply byteOf
 decide +kernel
theorem mark_at (c:UInt8):decide (0≤Lib.indexByte markL c)=markL.contains c:=by
 revert c
 apply byteOf
 decide +kernel
set_option maxHeartbeats 1000000 in
theorem msg_isFree (c:UInt8) (w:World):Calls Tryz.prog 161 #[.int .u8 (c.toNat:Int)] w fun e w'=>e= .returned (.bool (freeN c.toNat))∧w=w':=by
 have hl:=msg_isLetter c.toNat w
 have hd:=msg_isDigit c.toNat w
 have hi:=Tryz.strings_IndexByte ⟨#[45,46,95,126]⟩ (c.toNat:Int) w
 rw [byteBack]at hi
 have HF:=hId (free4_at c)
 generalize hr:Lib.indexByte (⟨#[45,46,95,126]⟩:ByteArray).data.toList c=r at hi
 have HR:Hid (Lib.indexByte [45,46,95,126] c=r):=hId hr
 clear hr
 cases h:isLetN c.toNat <;> rw [h]at hl
 ·cases h2:isDigN c.toNat <;> rw [h2]at hd
  ·go_enter Tryz.func161,Tryz.ntmps161
   go_wp2_with (first |(refine hl.mono ?_;clear hl;rintro e w' ⟨rfl,rfl⟩) |(refine hd.mono ?_;clear hd;rintro e w' ⟨rfl,rfl⟩) |(refine hi.mono ?_;clear hi;rintro e w' ⟨rfl,rfl⟩))
   all_goals go_ret
   all_goals (refine ⟨ret_bool ?_,rfl⟩)
   all_goals (have hk:freeN c.toNat=decide (0≤r):=by(unfold freeN;rw [h,h2,Bool.false_or,Bool.false_or,←HR.out,HF.out]))
   all_goals (first | exact hk.symm |(simp only [hk];simp;done) |(simp only [hk];simp;omega))
  ·go_enter Tryz.func161,Tryz.ntmps161
   go_wp2_with (first |(refine hl.mono ?_;clear hl;rintro e w' ⟨rfl,rfl⟩) |(refine hd.mono ?_;clear hd;rintro e w' ⟨rfl,rfl⟩))
   go_ret
   exact⟨ret_bool (by simp [freeN,h,h2]),rfl⟩
 ·go_enter Tryz.func161,Tryz.ntmps161
  go_wp2_with (first |(refine hl.mono ?_;clear hl;rintro e w' ⟨rfl,rfl⟩))
  go_ret
  exact⟨ret_bool (by simp [freeN,h]),rfl⟩
abbrev upB:ByteArray:=⟨#[48,49,50,51,52,53,54,55,56,57,65,66,67,68,69,70]⟩
theorem upB_at (m:Nat) (h:m<16):upHex m=upB[m]'h:=by
 match m,h with
 | 0,_=>rfl
 | 1,_=>rfl
 | 2,_=>rfl
 | 3,_=>rfl
 | 4,_=>rfl
 | 5,_=>rfl
 | 6,_=>rfl
 | 7,_=>rfl
 | 8,_=>rfl
 | 9,_=>rfl
 | 10,_=>rfl
 | 11,_=>rfl
 | 12,_=>rfl
 | 13,_=>rfl
 | 14,_=>rfl
 | 15,_=>rfl
 | n+16,h=>exact absurd h (by omega)
/-- a row of three bytes as a string -/
theorem three_bytes (w:World) (g:Nat) (a b c:UInt8) (cs:Array Value) (hcs:cs= #[.int .u8 (a.toNat:Int),.int .u8 (b.toNat:Int),.int .u8 (c.toNat:Int)]) (h:Blk w g 5 cs):
  (convert 107 9 (.slice (some ⟨g,0,none⟩) 3 3)).run Tryz.prog w= .ok (.string ⟨#[a,b,c]⟩) w:=by
 subst hcs
 have:=run_convert_bytes_arg (P:=Tryz.prog) w 107 5 Tryz.underlying107 Tryz.underlying5 g 0 3 3 [(a.toNat:Int),(b.toNat:Int),(c.toNat:Int)] rfl (fun i hi=>by
  rw [Nat.zero_add,h.cell]
  match i,hi with
  | 0,_=>rfl
  | 1,_=>rfl
  | 2,_=>rfl
  | n+3,hi=>exact absurd hi (by omega)) 9 Tryz.underlying9
 have e:strOfNums [(a.toNat:Int),(b.toNat:Int),(c.toNat:Int)]=⟨#[a,b,c]⟩:=by
  unfold strOfNums
  simp only [List.map_cons,List.map_nil,Int.toNat_natCast,UInt8.ofNat_toNat]
 rw [e]at this
 exact this
set_option maxRecDepth 100000 in
set_option maxHeartbeats 1000000 in
theorem msg_percent (c:UInt8) (w:World):
  Calls Tryz.prog 162 #[.int .u8 (c.toNat:Int)] w fun e w'=>e= .returned (.string ⟨#[37,upHex (c.toNat / 16),upHex (c.toNat % 16)]⟩)∧New w w':=by
 have hc:=c.toNat_lt
 obtain⟨n,hn⟩:∃ n:Int,n=(c.toNat:Int):=⟨_,rfl⟩
 have h0:0≤n:=by omega
 have h1:n<256:=by omega
 have q16:(n / 16).toNat<16:=by omega
 have r16:(n % 16).toNat<16:=by omega
 have eq:upHex (c.toNat / 16)=upB[(n / 16).toNat]'q16:=by rw [← upB_at _ q16];congr 1;omega
 have er:upHex (c.toNat % 16)=upB[(n % 16).toNat]'r16:=by rw [← upB_at _ r16];congr 1;omega
 rw [eq,er,←hn]
 have d0:0≤n / 16:=by omega
 have d1:n / 16<16:=by omega
 have m0:0≤n % 16:=by omega
 have m1:n % 16<16:=by omega
 have HC:∀ nr,(convert 107 9 (.slice (some ⟨w.heap.size,0,none⟩) 3 3)).run Tryz.prog ((w.drewN nr).alloc (.cells #[.int .u8 37,.int .u8 ((upB[(n / 16).toNat]'q16).toNat:Int),.int .u8 ((upB[(n % 16).toNat]'r16).toNat:Int)] 5))= .ok (.string ⟨#[37,upB[(n / 16).toNat]'q16,upB[(n % 16).toNat]'r16]⟩) ((w.drewN nr).alloc (.cells #[.int .u8 37,.int .u8 ((upB[(n / 16).toNat]'q16).toNat:Int),.int .u8 ((upB[(n % 16).toNat]'r16).toNat:Int)] 5)):=fun nr=>three_bytes _ _ 37 _ _ _ rfl (Blk.new (w.drewN nr) _ _)
 have HC:=hId HC
 clear hn eq er hc
 go_enter Tryz.func162,Tryz.ntmps162
 go_wp2_with fail
 refine wp_region_quiet_tail 6 (by kernel_rfl) (by kernel_rfl) ?_
 simp only [List.take_succ_cons,List.take_zero,List.drop_succ_cons,List.drop_zero]
 repeat(go_big_quiet_step (fail))
 refine wpQuiet_nil ?_
 intro _ hw'
 obtain⟨nr,hw''⟩:=hw'
 subst hw''
 have hcv:=HC.out nr
 go_wp2_with fail
 go_ret
 exact⟨rfl,((Mod.refl _ _).drewN _).alloc _⟩
set_option maxHeartbeats 1000000 in
theorem strconv_parseUint16_8 (t:ByteArray) (h0:1≤t.size) (h2:t.size≤2) (hx:∀ c∈t.data.toList,isHexN c.toNat=true) (w:World):
  Calls Tryz.prog 189 #[.string t,.int .i64 16,.int .i64 8] w fun e w'=>e= .returned (.tuple #[.int .u64 (hexNum t.data.toList),.nilIface])∧New w w':=by
 have hp:=parseUint16_8 t h0 h2 hx w
 go_enter Tryz.func189,Tryz.ntmps189
 go_wp2_with fail
 refine hp.mono ?_
 clear hp
 rintro e w1 ⟨rfl,hm⟩
 go_wp2_with fail
 go_ret2
 exact⟨rfl,hm⟩
theorem unit_two {s:List UInt8} {i:Nat} (h:unitAt s i=true):((s.drop (i+1)).take 2)= [s.getD (i+1) 0,s.getD (i+2) 0]∧isHexN (s.getD (i+1) 0).toNat=true∧isHexN (s.getD (i+2) 0).toNat=true∧i+2<s.length:=by
 simp only [unitAt,Bool.and_eq_true,decide_eq_true_eq]at h
 obtain⟨⟨h3,h4⟩,h5⟩:=h
 refine⟨?_,h4,h5,h3⟩
 have e1:s.getD (i+1) 0=s[i+1]'(by omega):=by simp [List.getD_eq_getElem?_getD,List.getElem?_eq_getElem (show i+1<s.length by omega)]
 have e2:s.getD (i+2) 0=s[i+2]'(by omega):=by simp [List.getD_eq_getElem?_getD,List.getElem?_eq_getElem (show i+2<s.length by omega)]
 rw [e1,e2,List.drop_eq_getElem_cons (show i+1<s.length by omega),List.drop_eq_getElem_cons (show i+1+1<s.length by omega)]
 rfl
theorem extract_data (s:ByteArray) (i j:Nat):(s.extract i j).data.toList=(s.data.toList.drop i).take (j -i):=by
 rw [ByteArray.data_extract,Array.toList_extract]
set_option maxHeartbeats 1000000 in
theorem msg_unit (s:ByteArray) (i:Nat) (w:World) (hs:s.size≤1000000) (hu:unitAt s.data.toList i=true):
  Calls Tryz.prog 158 #[.string s,.int .i64 (i:Int)] w fun e w'=>e= .returned (.int .u8 ((unitV (s.data.toList.getD (i+1) 0) (s.data.toList.getD (i+2) 0)).toNat:Int))∧New w w':=by
 obtain⟨u1,u2,u3,u4⟩:=unit_two hu
 have u5:i+2<s.size:=u4
 generalize s.data.toList.getD (i+1) 0=a at *
 generalize s.data.toList.getD (i+2) 0=b at *
 have hd:(s.extract (i+1) (i+3)).data.toList= [a,b]:=by rw [extract_data,←u1];congr 1;omega
 have hz:(s.extract (i+1) (i+3)).size=2:=by simp only [ByteArray.size_extract];omega
 have hp:=strconv_parseUint16_8 (s.extract (i+1) (i+3)) (by omega) (by omega) (by
  rw [hd];intro c hc;simp at hc;rcases hc with rfl | rfl
  ·exact u2
  ·exact u3) w
 rw [hd]at hp
 have v1:=hexV_lt u2
 have v2:=hexV_lt u3
 have hn:hexNum [a,b]=16 * hexV a.toNat+hexV b.toNat:=by simp [hexNum];omega
 have hv:(unitV a b).toNat=16 * hexV a.toNat+hexV b.toNat:=by
  unfold unitV
  rw [UInt8.toNat_ofNat']
  omega
 rw [hn]at hp
 rw [hv]
 generalize hq:16 * hexV a.toNat+hexV b.toNat=q at *
 have q256:q<256:=by omega
 have n1:((i:Int)+1).toNat=i+1:=by omega
 have n3:((i:Int)+3).toNat=i+3:=by omega
 have b1:(i:Int)+3≤(s.size:Int):=by omega
 clear u1 u2 u3 u4 hd hz hn hv v1 v2 hq hu
 go_enter Tryz.func158,Tryz.ntmps158
 go_wp2_with fail
 refine hp.mono ?_
 clear hp
 rintro e w1 ⟨rfl,hm⟩
 have hm:=hId hm
 go_wp2_with fail
 go_ret
 exact⟨rfl,hm.out⟩
/-- what a segment's decoding gives: the bytes, or that a unit is wrong -/
def decV (s:List UInt8):Value:=match decL s with
 | none=>.tuple #[.string ⟨#[]⟩,.bool false]
 | some o=>.tuple #[.string ⟨o.toArray⟩,.bool true]
theorem decV_none {s:List UInt8} (h:decL s=none):decV s= .tuple #[.string ⟨#[]⟩,.bool false]:=by unfold decV;rw [h]
theorem decV_some {s o:List UInt8} (h:decL s=some o):decV s= .tuple #[.string ⟨o.toArray⟩,.bool true]:=by unfold decV;rw [h]
/-- what has been read of s up to place k gives o -/
def DecTo (s:List UInt8) (k:Nat) (o:List UInt8):Prop:=decL s=(decL (s.drop k)).map (o++ ·)∧o.length≤k
theorem DecTo.start (s:List UInt8):DecTo s 0 []:=⟨by simp,Nat.le_refl _⟩
theorem DecTo.plain {s:List UInt8} {k:Nat} {o:List UInt8} (h:DecTo s k o) (hk:k<s.length) (h1:s[k]≠37):DecTo s (k+1) (o++ [s[k]]):=by
 refine⟨?_,by have:=h.2;simp;omega⟩
 rw [h.1,decL_at_plain hk h1]
 cases decL (s.drop (k+1)) <;> simp
theorem DecTo.unit {s:List UInt8} {k:Nat} {o:List UInt8} (h:DecTo s k o) (hk:k<s.length) (h1:s[k]=37) (h2:unitAt s k=true):DecTo s (k+3) (o++ [unitV (s.getD (k+1) 0) (s.getD (k+2) 0)]):=by
 refine⟨?_,by have:=h.2;simp;omega⟩
 rw [h.1,decL_at_unit hk h1 h2]
 cases decL (s.drop (k+3)) <;> simp
theorem DecTo.bad {s:List UInt8} {k:Nat} {o:List UInt8} (h:DecTo s k o) (hk:k<s.length) (h1:s[k]=37) (h2:unitAt s k=false):decL s=none:=by
 rw [h.1,decL_at_bad hk h1 h2];rfl
theorem DecTo.done {s:List UInt8} {k:Nat} {o:List UInt8} (h:DecTo s k o) (hk:s.length≤k):decL s=some o:=by
 rw [h.1,List.drop_eq_nil_of_le hk];simp [decL]
theorem bw_any (B b:Nat) (l:List UInt8) (w:World) (h:Bw 109 B b l w):
  Calls Tryz.prog 73 #[.pointer (some ⟨b,0,none⟩)] w fun e w'=>e= .returned (.string ⟨l.toArray⟩)∧Mod (fun k=>B≤k) w w':=by
 have hlt:=h.lt
 refine(Tryz.Builder_String_any B b l w h (by omega)).mono ?_
 rintro e w' ⟨rfl,hm⟩
 exact⟨rfl,Mod.of_belowB hm⟩
set_option maxRecDepth 100000 in
set_option maxHeartbeats 2000000 in
theorem msg_decoded (s:ByteArray) (w:World) (hs:s.size≤900000):
  Calls Tryz.prog 86 #[.string s,.bool false] w fun e w'=>e= .returned (decV s.data.toList)∧New w w':=by
 have hb0:=Blk.new w 109 #[.pointer none,.slice none 0 0]
 have hm0:New w (w.alloc (.cells #[.pointer none,.slice none 0 0] 109)):=(Mod.refl _ _).alloc _
 go_enter Tryz.func86,Tryz.ntmps86
 go_upto_region 2 with(fail)
 generalize w.alloc (.cells #[.pointer none,.slice none 0 0] 109)=w1 at *
 generalize hbe:w.heap.size=B at *
 have HB:=hId (Bw.fresh hb0 (Nat.le_refl _))
 have HM:=hId hm0
 have HBE:=hId hbe
 clear hb0 hm0 hbe
 go_wp2_with fail
 go_loopw [7] (fun i wr=>∃(k:Nat) (o:List UInt8),k≤s.size∧i= .int .i64 k∧Hid (DecTo s.data.toList k o)∧Hid (Bw 109 B B o wr)∧Hid (New w wr)) (fun i _=>s.size -(intOf i).toNat)
 case atStart=>exact⟨0,[],Nat.zero_le _,rfl,hId (DecTo.start _),HB,HM⟩
 case round=>
  clear HB HM
  rename World=>wr
  obtain⟨k,o,hk,rfl,HD,HB,HM⟩:=hrel
  by_cases hlt:k<s.size
  ·have hkl:k<s.data.toList.length:=hlt
   have HG:Hid (s.data.toList[k]=s[k]):=hId rfl
   have HL:Hid (o.length+1≤1000000):=hId (by have:=HD.out.2;omega)
   have hu:=msg_isUnit s k wr (by omega) hlt
   have HKL:=hId hkl
   by_cases h37:s[k]=37
   ·have c0:¬ (s[k].toNat:Int)=43:=by rw [h37];decide
    have c1:((s[k].toNat:Int) != 37)=false:=by rw [h37];rfl
    have H37:Hid (s.data.toList[k]'HKL.out=37):=hId (HG.out.trans h37)
    clear h37
    cases hua:unitAt s.data.toList k <;> rw [hua]at hu
    ·have HN:=hId (HD.out.bad HKL.out H37.out hua)
     clear hua
     go_wp2_with (first |(refine hu.mono ?_;clear hu;rintro e w' ⟨rfl,rfl⟩))
     go_ret2
     exact⟨congrArg Ending.returned (decV_none HN.out).symm,HM.out⟩
    ·have hun:=msg_unit s k wr (by omega) hua
     have hk3:k+3≤s.size:=(unit_two hua).2.2.2
     have HD1:=hId (HD.out.unit HKL.out H37.out hua)
     clear hua HD
     generalize unitV (s.data.toList.getD (k+1) 0) (s.data.toList.getD (k+2) 0)=c at *
     have n1:((k:Int)+2+1).toNat=k+3:=by omega
     go_wp2_with (first |(refine hu.mono ?_;clear hu;rintro e w' ⟨rfl,rfl⟩) |(refine hun.mono ?_;clear hun;rintro e w2 ⟨rfl,hm2⟩))
     have HB2:=hId (HB.out.new hm2)
     have HM2:Hid (New w w2):=hId (HM.out.trans hm2)
     clear HB HM hm2
     have HB:=HB2
     have HM:=HM2
     clear HB2 HM2
     refine(bw_byte buT_self B B _ c _ (by first | rfl |(exact HC.out.symm)) _ HB.out (by have hq:=HL.out;first | omega |(simp;done) |(simp at hq ⊢;omega))).mono ?_
     rintro e wz ⟨rfl,hb1,hm1,-⟩
     have HM1:=hId (HM.out.from hm1 (Nat.le_of_eq HBE.out))
     clear HB HM hm1
     have HB:=hId hb1
     have HM:=HM1
     clear hb1 HM1
     go_wp2_with fail
     go_roundw
     case rel=>exact⟨k+3,_,by omega,by go_num,HD1,HB,HM⟩
     case measure=>simp [intOf];omega
   ·have c1:((s[k].toNat:Int) != 37)=true:=by
     simp only [bne_iff_ne,ne_eq]
     intro h
     exact h37 (UInt8.toNat_inj.1 (by have:(37:UInt8).toNat=37:=rfl;omega))
    have HD1:=hId (HD.out.plain HKL.out (by rw [HG.out];exact h37))
    rw [HG.out]at HD1
    clear HD h37 hu
    by_cases c0:(s[k].toNat:Int)=43
    ·have HC:=hId c0
     go_wp2_with fail
     refine(bw_byte buT_self B B _ s[k] _ (by first | rfl |(exact HC.out.symm)) _ HB.out (by have hq:=HL.out;first | omega |(simp;done) |(simp at hq ⊢;omega))).mono ?_
     rintro e wz ⟨rfl,hb1,hm1,-⟩
     have HM1:=hId (HM.out.from hm1 (Nat.le_of_eq HBE.out))
     clear HB HM hm1
     have HB:=hId hb1
     have HM:=HM1
     clear hb1 HM1
     go_wp2_with fail
     go_roundw
     case rel=>exact⟨k+1,_,by omega,by go_num,HD1,HB,HM⟩
     case measure=>simp [intOf];omega
    ·go_wp2_with fail
     refine(bw_byte buT_self B B _ s[k] _ (by first | rfl |(exact HC.out.symm)) _ HB.out (by have hq:=HL.out;first | omega |(simp;done) |(simp at hq ⊢;omega))).mono ?_
     rintro e wz ⟨rfl,hb1,hm1,-⟩
     have HM1:=hId (HM.out.from hm1 (Nat.le_of_eq HBE.out))
     clear HB HM hm1
     have HB:=hId hb1
     have HM:=HM1
     clear hb1 HM1
     go_wp2_with fail
     go_roundw
     case rel=>exact⟨k+1,_,by omega,by go_num,HD1,HB,HM⟩
     case measure=>simp [intOf];omega
  ·obtain rfl:k=s.size:=by omega
   have HN:=hId (HD.out.done (Nat.le_refl _))
   go_wp2_with fail
   refine(bw_any B B o _ HB.out).mono ?_
   rintro e w2 ⟨rfl,hm2⟩
   have HM2:=hId (HM.out.from hm2 (Nat.le_of_eq HBE.out))
   clear hm2 HB HM
   go_wp2_with fail
   go_ret2
   exact⟨congrArg Ending.returned (decV_some HN.out).symm,HM2.out⟩
end Go.Proofs.YtnlloaimplgjnaaGreatDoor
