/- Words for memory that all walks of this seat share: what a world keeps, rows of cells that read as lists. No conditions. -/
import Derived.Test.YtnlloaimplgjnaaGreatDoorRows
import Derived.WalkKit
import Derived.WalkSpells
import Derived.WalkLawsBesides
import Derived.Deep.QuietTactic
import Derived.BigQuiet
import Derived.Lib.Hide
import Derived.Deep.RegionHeld3
import Derived.Deep.DeepCutAuto
namespace Go.Proofs.YtnlloaimplgjnaaGreatDoor
open Go.RowKit
theorem lgz {α:Type _} (a:α) (l:List α) (h:0<(a::l).length):(a::l)[0]=a:=rfl
theorem lgs {α:Type _} (a:α) (l:List α) (i:Nat) (h:i+1<(a::l).length):(a::l)[i+1]=l[i]'(Nat.lt_of_succ_lt_succ h):=rfl
theorem lzt {α:Type _} (l:List α) (i:Nat) (a:α):l.toArray.setIfInBounds i a=(l.set i a).toArray:=List.setIfInBounds_toArray l i a
theorem lgt {α:Type _} {xs:List α} {i:Nat} (h:i<xs.toArray.size):xs.toArray[i]=xs[i]:=List.getElem_toArray h
theorem lsz {α:Type _} {x:α} {xs:List α} {a:α}:(x::xs).set 0 a=a::xs:=rfl
theorem lss {α:Type _} {x:α} {xs:List α} {i:Nat} {a:α}:(x::xs).set (i+1) a=x::xs.set i a:=rfl
theorem lqz {α:Type _} {a:α} {l:List α}:(a::l)[0]? =some a:=rfl
theorem lqt {α:Type _} {xs:List α} {i:Nat}:xs.toArray[i]? =xs[i]?:=List.getElem?_toArray
theorem lqs {α:Type _} {a:α} {i:Nat} {l:List α}:(a::l)[i+1]? =l[i]?:=List.getElem?_cons_succ
theorem hId {p:Prop} (h:p):Hid p:=Lib.hid h
set_option linter.unusedVariables false
set_option linter.unusedSimpArgs false
/-- Of the blocks that were there only those in S may have turned. -/
structure Mod (S:Nat→Prop) (w w':World):Prop where
 os:w'.os=w.os
 tape:w'.tape=w.tape
 output:w'.output=w.output
 size:w.heap.size≤w'.heap.size
 block:∀ k,k<w.heap.size→¬ S k→w'.heap[k]? =w.heap[k]?
theorem Mod.refl (S:Nat→Prop) (w:World):Mod S w w:=⟨rfl,rfl,rfl,Nat.le_refl _,fun _ _ _=>rfl⟩
theorem Mod.trans {S:Nat→Prop} {a b c:World} (h:Mod S a b) (k:Mod S b c):Mod S a c:=
 ⟨k.os.trans h.os,k.tape.trans h.tape,k.output.trans h.output,Nat.le_trans h.size k.size,
  fun i hi hs=>(k.block i (Nat.lt_of_lt_of_le hi h.size) hs).trans (h.block i hi hs)⟩
/-- The second step may turn, besides, what the first has made. -/
theorem Mod.step {S T:Nat→Prop} {a b c:World} (h:Mod S a b) (k:Mod T b c) (hT:∀ i,i<a.heap.size→T i→S i):Mod S a c:=
 ⟨k.os.trans h.os,k.tape.trans h.tape,k.output.trans h.output,Nat.le_trans h.size k.size,
  fun i hi hs=>(k.block i (Nat.lt_of_lt_of_le hi h.size) (fun ht=>hs (hT i hi ht))).trans (h.block i hi hs)⟩
theorem Mod.mono {S T:Nat→Prop} {a b:World} (h:Mod S a b) (hT:∀ i,i<a.heap.size→S i→T i):Mod T a b:=
 ⟨h.os,h.tape,h.output,h.size,fun i hi ht=>h.block i hi (fun hs=>ht (hT i hi hs))⟩
theorem Mod.drew {S:Nat→Prop} {a w:World} (h:Mod S a w):Mod S a w.drew:=⟨h.os,h.tape,h.output,h.size,h.block⟩
theorem Mod.drewN {S:Nat→Prop} {a w:World} (h:Mod S a w) (n:Nat):Mod S a (w.drewN n):=⟨h.os,h.tape,h.output,h.size,h.block⟩
theorem Mod.alloc {S:Nat→Prop} {a w:World} (h:Mod S a w) (o:Obj):Mod S a (w.alloc o):=
 ⟨h.os,h.tape,h.output,Nat.le_trans h.size (by simp),fun i hi hs=>(Below.heap_alloc w o i (Nat.lt_of_lt_of_le hi h.size)).trans (h.block i hi hs)⟩
theorem Mod.setCell {S:Nat→Prop} {a w:World} (h:Mod S a w) {p:Addr} (hp:S p.block∨a.heap.size≤p.block) (u:Value):Mod S a (w.setCell p u):=
 ⟨h.os,h.tape,h.output,by simpa [World.setCell]using h.size,fun i hi hs=>(Below.heap_setCell w p u i (by
  rintro rfl
  rcases hp with hp | hp
  ·exact hs hp
  ·omega)).trans (h.block i hi hs)⟩
theorem Mod.grown {S:Nat→Prop} {a w w':World} {row:Option Nat} (h:Mod S a w) (hg:w.grownBy w' row) (hr:∀ k,row=some k→S k∨a.heap.size≤k):Mod S a w':=
 ⟨hg.os.trans h.os,hg.tape.trans h.tape,hg.output.trans h.output,Nat.le_trans h.size hg.size,
  fun i hi hs=>(hg.block i (Nat.lt_of_lt_of_le hi h.size) (fun e=>by
   rcases hr i e.symm with hx | hx
   ·exact hs hx
   ·omega)).trans (h.block i hi hs)⟩
theorem Mod.cell {S:Nat→Prop} {w w':World} (h:Mod S w w') {p:Addr} (hp:p.block<w.heap.size) (hs:¬ S p.block):w'.cell? p=w.cell? p:=
 World.cell?_of_block (w:=w) (h.block p.block hp hs)
theorem Mod.frozen {S:Nat→Prop} {w w':World} (h:Mod S w w') {p:Addr} (hp:p.block<w.heap.size) (hs:¬ S p.block):w'.frozen? p=w.frozen? p:=
 World.frozen?_of_block (w:=w) (h.block p.block hp hs)
theorem Mod.below {w w':World} (h:Mod (fun _=>False) w w'):Below w.heap.size w w':=
 ⟨h.os,h.tape,h.output,h.size,fun k hk=>h.block k hk (fun x=>x)⟩
theorem Mod.of_below {S:Nat→Prop} {w w':World} (h:Below w.heap.size w w'):Mod S w w':=
 ⟨h.os,h.tape,h.output,h.size,fun k hk _=>h.block k hk⟩
theorem Mod.pre {S:Nat→Prop} {w w1:World} {o:Obj} (h:Mod S (w.alloc o) w1):Mod S w w1∧w.heap.size<w1.heap.size∧(¬ S w.heap.size→w1.heap[w.heap.size]? =some o):=by
 have hz:(w.alloc o).heap.size=w.heap.size+1:=by simp
 refine⟨((Mod.refl S w).alloc o).trans h,by have:=h.size;omega,fun hs=>?_⟩
 rw [h.block w.heap.size (by omega) hs]
 exact heap_alloc_new w o
/-- nothing that was there has turned -/
abbrev New (w w':World):Prop:=Mod (fun _=>False) w w'
/-- of what was there block b alone may have turned -/
abbrev Only (b:Nat) (w w':World):Prop:=Mod (fun k=>k=b) w w'
/-- Block g is just the cells cs of element type t, none frozen. -/
def Blk (w:World) (g:Nat) (t:TypeId) (cs:Array Value):Prop:=w.heap[g]? =some (.cells cs t (0,0))
section
variable {w w':World} {g:Nat} {t:TypeId} {cs:Array Value}
theorem heap_lt {w:World} {g:Nat} {o:Obj} (h:w.heap[g]? =some o):g<w.heap.size:=by
 rcases Nat.lt_or_ge g w.heap.size with hlt | hge
 ·exact hlt
 ·rw [Array.getElem?_eq_none hge]at h;cases h
theorem Blk.lt (h:Blk w g t cs):g<w.heap.size:=heap_lt h
theorem Blk.cell (h:Blk w g t cs) (i:Nat):w.cell? ⟨g,i,none⟩=cs[i]?:=by
 unfold Blk at h;simp [World.cell?,h]
theorem Blk.frozen (h:Blk w g t cs) (i:Nat):w.frozen? ⟨g,i,none⟩=false:=by
 unfold Blk at h;simp [World.frozen?,h]
theorem Blk.new (w:World) (t:TypeId) (cs:Array Value):Blk (w.alloc (.cells cs t)) w.heap.size t cs:=heap_alloc_new w _
theorem Blk.new' {w:World} {g:Nat} (t:TypeId) (cs:Array Value) (hg:w.heap.size=g):Blk (w.alloc (.cells cs t)) g t cs:=by subst hg;exact heap_alloc_new w _
theorem Blk.set (h:Blk w g t cs) (i:Nat) (u:Value):Blk (w.setCell ⟨g,i,none⟩ u) g t (cs.setIfInBounds i u):=by
 unfold Blk at h ⊢
 simp [World.setCell,Array.getElem?_modify,h]
theorem Blk.mod {S:Nat→Prop} (h:Blk w g t cs) (hm:Mod S w w') (hs:¬ S g):Blk w' g t cs:=(hm.block g h.lt hs).trans h
theorem Blk.ne {g':Nat} {t':TypeId} {cs':Array Value} (h:Blk w g t cs) (h':Blk w g' t' cs') (hne:t≠t'):g≠g':=by
 rintro rfl
 unfold Blk at h h'
 rw [h]at h'
 injection h' with h'
 injection h' with _ ht
 exact hne ht
end
theorem ret_int {k:IntKind} {a b:Int} (h:a=b):Ending.returned (.int k a)= .returned (.int k b):=by rw [h]
theorem ret_bool {a b:Bool} (h:a=b):Ending.returned (.bool a)= .returned (.bool b):=by rw [h]
/-- block g is a row of cells of element type t -/
def TB (w:World) (g:Nat) (t:TypeId):Prop:=∃ cs fr,w.heap[g]? =some (.cells cs t fr)
theorem TB.lt {w:World} {g:Nat} {t:TypeId} (h:TB w g t):g<w.heap.size:=by obtain⟨_,_,h⟩:=h;exact heap_lt h
theorem TB.mod {S:Nat→Prop} {w w':World} {g:Nat} {t:TypeId} (h:TB w g t) (hm:Mod S w w') (hs:¬ S g):TB w' g t:=by
 obtain⟨cs,fr,h'⟩:=h;exact⟨cs,fr,(hm.block g (heap_lt h') hs).trans h'⟩
theorem Blk.tb {w:World} {g:Nat} {t:TypeId} {cs:Array Value} (h:Blk w g t cs):TB w g t:=⟨cs,_,h⟩
theorem TB.ne {w:World} {g g':Nat} {t t':TypeId} (h:TB w g t) (h':TB w g' t') (hne:t≠t'):g≠g':=by
 rintro rfl
 obtain⟨cs,fr,h⟩:=h
 obtain⟨cs',fr',h'⟩:=h'
 rw [h]at h'
 injection h' with h'
 injection h' with _ ht
 exact hne ht
/-- the slice '.slice A n c' of element type t reads as the list xs; an element takes sz cells, 'enc x j' is the j-th -/
def Sl {α:Type} (w:World) (t:TypeId) (sz:Nat) (enc:α→Nat→Value) (A:Option Addr) (n:Nat) (xs:List α):Prop:=
 xs.length=n∧(0<n→∃ g o,A=some ⟨g,o,none⟩∧TB w g t∧∀ i (h:i<xs.length) j,j<sz→w.cell? ⟨g,o+i * sz+j,none⟩=some (enc xs[i] j))
section
variable {α:Type} {w w':World} {t:TypeId} {sz:Nat} {enc:α→Nat→Value} {A:Option Addr} {n:Nat} {xs:List α}
theorem Sl.nil:Sl w t sz enc A 0 ([]:List α):=⟨rfl,fun h=>absurd h (by omega)⟩
theorem Sl.mod {S:Nat→Prop} (h:Sl w t sz enc A n xs) (hm:Mod S w w') (hs:∀ g,TB w g t→¬ S g):Sl w' t sz enc A n xs:=by
 refine⟨h.1,fun h0=>?_⟩
 obtain⟨g,o,hA,hg,hc⟩:=h.2 h0
 exact⟨g,o,hA,hg.mod hm (hs g hg),fun i hi j hj=>(hm.cell (p:=⟨g,o+i * sz+j,none⟩) hg.lt (hs g hg)).trans (hc i hi j hj)⟩
theorem Sl.new (h:Sl w t sz enc A n xs) (hm:New w w'):Sl w' t sz enc A n xs:=h.mod hm (fun _ _ x=>x)
/-- out of a block that is known whole -/
theorem Sl.of_blk {g:Nat} {cs:Array Value} (hb:Blk w g t cs) (hn:xs.length=n) (hc:∀ i (h:i<xs.length) j,j<sz→cs[i * sz+j]? =some (enc xs[i] j)):
  Sl w t sz enc (some ⟨g,0,none⟩) n xs:=
 ⟨hn,fun _=>⟨g,0,rfl,hb.tb,fun i hi j hj=>by rw [hb.cell];simpa using hc i hi j hj⟩⟩
end
theorem Mod.set8 (x:Nat) (w:World) (v0 v1 v2 v3 v4 v5 v6 v7:Value):Mod (fun k=>k=x) w ((((((((w.setCell ⟨x,0,none⟩ v0).setCell ⟨x,1,none⟩ v1).setCell ⟨x,2,none⟩ v2).setCell ⟨x,3,none⟩ v3).setCell ⟨x,4,none⟩ v4).setCell ⟨x,5,none⟩ v5).setCell ⟨x,6,none⟩ v6).setCell ⟨x,7,none⟩ v7):=
 ((((((((Mod.refl (fun k=>k=x) w).setCell (.inl rfl) v0).setCell (.inl rfl) v1).setCell (.inl rfl) v2).setCell (.inl rfl) v3).setCell (.inl rfl) v4).setCell (.inl rfl) v5).setCell (.inl rfl) v6).setCell (.inl rfl) v7
end Go.Proofs.YtnlloaimplgjnaaGreatDoor
