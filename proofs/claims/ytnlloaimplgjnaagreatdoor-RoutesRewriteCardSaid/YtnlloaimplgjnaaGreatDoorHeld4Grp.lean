/- Several texts in one. (1) A region that draws its order, its head walked as a tree: where several steps are ready each one has its own goal; its last operations come in one forced order and may do anything. No conditions beside the region's own form. (2) The stream's request for a route with its headers (Stream.RouteRequest). Conditions: the stream has room. -/
import Derived.Test.YtnlloaimplgjnaaGreatDoorHeldGrp
import Derived.Test.YtnlloaimplgjnaaGreatDoorNrmLwGrp
import Derived.Test.YtnlloaimplgjnaaGreatDoorNormGrp
import Derived.Deep.RegionHeld3
namespace Go.Proofs.YtnlloaimplgjnaaGreatDoor
open Go Go.RowKit
set_option linter.unusedVariables false
set_option linter.unusedSimpArgs false
section
variable {P:Program} {ops:Array Oper} {md:Region.Mode} {Q:Exit→Act→World→Prop} {S:World→Prop} {n:Nat}
/-- the walk of what is left of a head: f operations -/
def headW (P:Program) (md:Region.Mode) (ops:Array Oper) (Q:Exit→Act→World→Prop) (S:World→Prop) (n:Nat) (Lq:Act→World→Prop) (f:Nat) (listed:Array Bool) (a:Act) (w:World):Prop:=
 HeadInv md ops n listed→headH P md ops Q S n (fun listed' a' w'=>Region.seqB md ops (ops.size -n) n listed'=true∧Lq a' w') f listed a w
theorem headW_done {Lq:Act→World→Prop} {listed:Array Bool} {a:Act} {w:World} (hB:Region.seqB md ops (ops.size -n) n listed=true) (h:Lq a w):headW P md ops Q S n Lq 0 listed a w:=fun _=>⟨hB,h⟩
/-- what a region's head asks for, whatever its walk -/
def headB (md:Region.Mode) (ops:Array Oper) (n:Nat):Bool:=Region.noSelect ops&&decide (n<ops.size)&&Region.sinkB md ops n&&Region.chainB md ops n
def takeB (md:Region.Mode) (ops:Array Oper) (n k:Nat) (listed:Array Bool):Bool:=decide (k<n)&&(Region.ready md ops listed).contains k&&Region.free md ops listed k
theorem headW_take {Lq:Act→World→Prop} {f:Nat} {listed:Array Bool} {a:Act} {w:World} (k:Nat) (o:Oper) (v:Value) (hQ:∀ c a d v w,Q (.panic c) (Act.put a d v) w→Q (.panic c) a w) (hH:headB md ops n=true) (ho:ops[k]? =some o) (hB:takeB md ops n k listed=true) (hS:S w)
  (hg:Region.wanted o (yielded ops a.tmps)=true) (hy:∀ w,S w→(execOp a.eval o).run P w= .ok (.value v) w) (h:headW P md ops Q S n Lq f (listed.setIfInBounds k true) (a.put o.dst v) w):headW P md ops Q S n Lq (f+1) listed a w:=by
 intro inv
 simp only [headB,Bool.and_eq_true,decide_eq_true_eq]at hH
 obtain⟨⟨⟨hsel,hn⟩,hs⟩,hc⟩:=hH
 simp only [takeB,Bool.and_eq_true,decide_eq_true_eq]at hB
 obtain⟨⟨hkn,hr⟩,hf⟩:=hB
 have hr':k∈Region.ready md ops listed:=by simpa using hr
 exact headH_first ho (Region.noSelect_spec hsel) (fun c a w=>hQ c a _ v w) hs hc hn hkn (fun listed' a' w' hL=>seqB_ready hL.1) f listed a w inv (Region.free_spec ho hf) hr' (.inl ⟨hg,hy⟩) hS (h (inv.set hr' hkn))
/-- each of the ready ones, with its own goal -/
def eachW (P:Program) (md:Region.Mode) (ops:Array Oper) (Q:Exit→Act→World→Prop) (S:World→Prop) (n:Nat) (Lq:Act→World→Prop) (f:Nat) (listed:Array Bool) (a:Act) (w:World):List Nat→Prop
 | []=>True
 | k::l=>wpOp P ops Q k (fun a' w'=>S w'∧headW P md ops Q S n Lq f (listed.setIfInBounds k true) a' w') a w∧eachW P md ops Q S n Lq f listed a w l
theorem eachW_nil {Lq:Act→World→Prop} {f:Nat} {listed:Array Bool} {a:Act} {w:World}:eachW P md ops Q S n Lq f listed a w []:=trivial
theorem eachW_step {Lq:Act→World→Prop} {f:Nat} {listed:Array Bool} {a:Act} {w:World} {k:Nat} {l:List Nat} {o:Oper} (ho:ops[k]? =some o) (hg:o.guard=none)
  (h:∀ K:Act→World→Prop,Shut (∀ a' w',S w'→(S w'→headW P md ops Q S n Lq f (listed.setIfInBounds k true) a' w')→K a' w')→o.wp P a w K Q) (h2:eachW P md ops Q S n Lq f listed a w l):eachW P md ops Q S n Lq f listed a w (k::l):=by
 refine⟨?_,h2⟩
 unfold wpOp
 simp only [ho]
 rw [if_pos (by simp [Region.wanted,hg])]
 exact .inl (h _ (fun a' w' h1 h2=>⟨h1,h2 h1⟩))
theorem eachW_mem {Lq:Act→World→Prop} {f:Nat} {listed:Array Bool} {a:Act} {w:World}:∀ {l:List Nat},eachW P md ops Q S n Lq f listed a w l→∀ k∈l,wpOp P ops Q k (fun a' w'=>S w'∧headW P md ops Q S n Lq f (listed.setIfInBounds k true) a' w') a w
 | [],_,k,hk=>by cases hk
 | j::l,h,k,hk=>by
  rcases List.mem_cons.1 hk with rfl | hk
  ·exact h.1
  ·exact eachW_mem h.2 k hk
theorem headW_ready {Lq:Act→World→Prop} {f:Nat} {listed:Array Bool} {a:Act} {w:World} (rs:List Nat) (hr:Region.ready md ops listed=rs) (hrs:(!rs.isEmpty&&rs.all (fun k=>decide (k<n)))=true) (h:eachW P md ops Q S n Lq f listed a w rs):headW P md ops Q S n Lq (f+1) listed a w:=by
 intro inv
 subst hr
 simp only [Bool.and_eq_true,Bool.not_eq_true',List.all_eq_true,decide_eq_true_eq]at hrs
 refine⟨fun e=>by rw [e]at hrs;exact absurd hrs.1 (by simp),fun i hi=>?_⟩
 have hin:=hrs.2 i hi
 exact⟨hin,wpOp_mono (fun a' w' h'=>⟨h'.1,h'.2 (inv.set hi hin)⟩) (eachW_mem h i hi)⟩
/-- the head's n operations by 'headW'; the others come in their order -/
theorem wp_region_held_tree {id:Nat} {a:Act} {w:World} {l:List Oper} (S:World→Prop) (n:Nat) (hm:P.follows .mixedOrders=true) (hB:headB .any l.toArray n=true)
  (h:headW P .any l.toArray Q S n (fun a' w'=>wpList P l.toArray Q (l.drop n) a' w') n (Array.replicate l.toArray.size false) a w.drew):(Code.region id l.toArray true).wp P Q a w:=by
 have hB':=hB
 simp only [headB,Bool.and_eq_true,decide_eq_true_eq]at hB'
 obtain⟨⟨⟨hsel,hn⟩,hs⟩,hc⟩:=hB'
 have hdl:(l.drop n).length=l.toArray.size -n:=by simp
 have inv0:HeadInv .any l.toArray n (Array.replicate l.toArray.size false):=
  ⟨by simp,fun j oj _ hl=>(by rw [getD_replicate_false]at hl;cases hl),fun t _ ht=>getD_in (by simpa using ht) (getD_replicate_false _ _)⟩
 have H:=h inv0
 refine wp_region_any hm ?_
 have:=wpAny_of_headH (md:=.any) (Q:=Q) (g:=l.toArray.size -n) (fun listed a' w' hL=>by
  have:=wpAny_of_seq (md:=.any) (Q':=Q) (l.drop n) n listed a' w' (fun j=>by simp [List.getElem?_drop]) (by rw [hdl];exact hL.1) hL.2
  rwa [hdl]at this) _ _ _ _ H
 rw [show n+(l.toArray.size -n)=l.toArray.size by omega]at this
 exact this
end
set_option maxRecDepth 100000 in
set_option maxHeartbeats 1000000 in
theorem routeRequest_full (b k:Nat) (w:World) (hs:SInv b w k) (hk:k<4611686018423000000):
  Calls Tryz.prog 5 #[.pointer (some ⟨b,0,none⟩)] w (RReq b w (k+600)):=by
 have hbl:=hs.lt
 have T:=(SStep.refl hs).alloc (.cells zReq 33)
 have hR:=Blk.new w 33 zReq
 have hz0:(w.alloc (.cells zReq 33)).heap.size=w.heap.size+1:=by simp
 go_enter Tryz.func5,Tryz.ntmps5
 go_wp2_with fail
 have R:=hId hR
 clear hR hs
 generalize w.alloc (.cells zReq 33)=w0 at *
 generalize hrb:w.heap.size=rb at *
 refine(some_any [⟨#[71,69,84]⟩,⟨#[71,69,84]⟩,⟨#[80,79,83,84]⟩,⟨#[80,85,84]⟩,⟨#[103,101,116]⟩,⟨#[68,69,76,69,84,69]⟩] b _ (rb+1) 6 _ (T.alloc _).inv (by omega) (Blk.new' _ _ hz0) rfl (by omega) (by omega)).mono ?_
 rintro e w1 ⟨me,rfl,ht,hx⟩
 have hz1:rb<w0.heap.size:=by omega
 have hme:me.size≤110:=by
  simp only [List.mem_cons,List.not_mem_nil,or_false]at ht
  rcases ht with rfl | rfl | rfl | rfl | rfl | rfl <;> decide
 clear hz0 ht
 have R':=hId (R.out.mod hx.only.pre.1 (by omega))
 have T':=(T.alloc _).trans hx
 have z':=hx.only.pre.2.1
 clear R T hx
 have R:=R'
 have T:=T'
 clear R' T'
 go_wp2_with fail
 refine(some_any [⟨#[97,46,98]⟩,⟨#[120,46,97,46,98]⟩,⟨#[121,46,97,46,98]⟩,⟨#[65,46,66]⟩,⟨#[99,46,100,58,56,48,56,48]⟩,⟨#[113,46,98]⟩,⟨#[98]⟩] b _ w1.heap.size 7 _ (T.alloc _).inv (by omega) (Blk.new _ _ _) rfl (by omega) (by omega)).mono ?_
 rintro e w2 ⟨ho,rfl,ht,hx⟩
 have hho:ho.size≤70:=by
  simp only [List.mem_cons,List.not_mem_nil,or_false]at ht
  rcases ht with rfl | rfl | rfl | rfl | rfl | rfl | rfl <;> decide
 clear ht
 have R':=hId (R.out.mod hx.only.pre.1 (by omega))
 have T':=(T.alloc _).trans hx
 have z':=hx.only.pre.2.1
 clear R T hx
 have R:=R'
 have T:=T'
 clear R' T'
 go_wp2_with fail
 refine(some_any [⟨#[47,97]⟩,⟨#[47,97]⟩,⟨#[47,97,47,98]⟩,⟨#[47,97,47,99]⟩,⟨#[47,99]⟩,⟨#[47,97,47,99,47,98]⟩,⟨#[47]⟩,⟨#[47,97,47]⟩,⟨#[47,37,54,49,47,46,47,98]⟩,⟨#[47,97,47,98,47,99,47,100]⟩,⟨#[47,97,47,37,50,70]⟩,⟨#[47,97,47,47,98]⟩] b _ w2.heap.size 12 _ (T.alloc _).inv (by omega) (Blk.new _ _ _) rfl (by omega) (by omega)).mono ?_
 rintro e w3 ⟨pa,rfl,ht,hx⟩
 have hpa:pa.size≤1040:=by
  simp only [List.mem_cons,List.not_mem_nil,or_false]at ht
  rcases ht with rfl | rfl | rfl | rfl | rfl | rfl | rfl | rfl | rfl | rfl | rfl | rfl <;> decide
 clear ht
 have R':=hId (R.out.mod hx.only.pre.1 (by omega))
 have T':=(T.alloc _).trans hx
 have z':=hx.only.pre.2.1
 clear R T hx
 have R:=R'
 have T:=T'
 clear R' T'
 clear z'
 have hzw:rb<w3.heap.size:=R.out.lt
 have hP:=Blk.new w3 33 #[.int .i64 0,.string me,.string ho,.string pa,.string ⟨#[]⟩,.string ⟨#[]⟩,.slice none 0 0,.string ⟨#[]⟩]
 have hmP:New w3 (w3.alloc (.cells #[.int .i64 0,.string me,.string ho,.string pa,.string ⟨#[]⟩,.string ⟨#[]⟩,.slice none 0 0,.string ⟨#[]⟩] 33)):=(Mod.refl _ _).alloc _
 have P:=hId hP
 have R':=hId (R.out.mod hmP (fun e=>e))
 have T':=T.new hmP
 clear R T hP hmP
 have R:=R'
 have T:=T'
 clear R' T'
 go_upto_region 2 with fail
 have hz4:(w3.alloc (.cells #[.int .i64 0,.string me,.string ho,.string pa,.string ⟨#[]⟩,.string ⟨#[]⟩,.slice none 0 0,.string ⟨#[]⟩] 33)).heap.size=w3.heap.size+1:=by simp
 generalize w3.alloc (.cells #[.int .i64 0,.string me,.string ho,.string pa,.string ⟨#[]⟩,.string ⟨#[]⟩,.slice none 0 0,.string ⟨#[]⟩] 33)=w4 at *
 have hpr:rb≠w3.heap.size:=by omega
 have hpb:b≠w3.heap.size:=by omega
 have hpg:rb<w3.heap.size:=by omega
 generalize w3.heap.size=pb at *
 have HZ4:Hid (pb+1≤w4.heap.size):=hId (by omega)
 clear hz4
 go_wp2_with fail
 refine(next_any b _ 3 w4 T.inv (by omega) (by omega) (by omega)).mono ?_
 rintro e w5 ⟨m,rfl,hm0,hm3,hx⟩
 have P':=hId (P.out.mod hx.only (by omega))
 have R':=hId (R.out.mod hx.only (by omega))
 have T':=T.trans hx
 have z':=hx.only.size
 clear R T hx
 have R:=R'
 have T:=T'
 clear R' T'
 clear P
 have P:=P'
 clear P'
 have HZ5:Hid (pb+1≤w5.heap.size):=hId (by have:=HZ4.out;omega)
 clear z'
 have HP:=P
 have HR:=R
 have HT:=hId T
 clear P R T
 go_wp2_with fail
 go_loopw [16] (fun i wr=>∃(j:Nat) (A:Option Addr) (n c:Nat) (ls:List PairD),(j:Int)≤m∧i= .int .i64 j∧j=n∧Hid (Blk wr rb 33 zReq)∧Hid (Blk wr pb 33 #[.int .i64 0,.string me,.string ho,.string pa,.string ⟨#[]⟩,.string ⟨#[]⟩,.slice A n c,.string ⟨#[]⟩])∧Hid (HOwn wr (pb+1) A n c ls)∧Hid (SStep b w wr (k+10+2 * j))∧pb+1≤wr.heap.size∧Hid (HSmall ls)) (fun i _=>(m -intOf i).toNat)
 case atStart=>exact⟨0,none,0,0,[],by omega,rfl,rfl,HR,HP,hId Own.nil,hId (HT.out.more (by omega)),HZ5.out,hId HSmall.nil⟩
 case round=>
  clear HR HP HT
  rename World=>wr
  obtain⟨j,A,n,c,ls,hj,rfl,rfl,R,P,HO,HT,hzr,HSM⟩:=hrel
  have T:=HT.out
  by_cases hlt:(j:Int)<m
  ·clear HT
   have HSN:Hid (∀ W,Blk W pb 33 #[.int .i64 0,.string me,.string ho,.string pa,.string ⟨#[]⟩,.string ⟨#[]⟩,.slice A j c,.string ⟨#[]⟩]→W.cell? ⟨pb,6,none⟩=some (.slice A j c)∧pb<W.heap.size):=hId (fun W h=>⟨(h.cell 6).trans rfl,h.lt⟩)
   have hd0:New wr wr.drew:=(Mod.refl (fun _=>False) wr).drew
   have T':=T.new hd0
   have HO':=hId (HO.out.new hd0)
   have P':=P.out.new2 hd0
   clear T HO P
   have T:=T'
   have HO:=HO'
   clear T' HO'
   go_upto_region 4 with fail
   refine wp_region_held_tree (fun W=>Blk W pb 33 #[.int .i64 0,.string me,.string ho,.string pa,.string ⟨#[]⟩,.string ⟨#[]⟩,.slice A j c,.string ⟨#[]⟩]) 11 rfl (by kernel_rfl) ?_
   have P:=hId P'
   have R':=hId (R.out.new2 hd0)
   clear P' hd0 R
   have R:=R'
   clear R'
   generalize wr.drew=w5 at *
   refine headW_take 0 _ ?_ (fun _ _ d _ _ h=>by cases d <;> exact h) (by kernel_rfl) rfl (by kernel_rfl) P.out (by rfl) (fun W hSw=>?_) ?_
   rotate_left
   ·(have hq:=HSN.out W hSw);(try simp only [lgt,lgz,lgs]);go_simp;any_goals (with_reducible rfl)
   simp only [Act.put,lgt,lgz,lgs,lzt,lsz,lss]
   refine headW_take 1 _ ?_ (fun _ _ d _ _ h=>by cases d <;> exact h) (by kernel_rfl) rfl (by kernel_rfl) P.out (by rfl) (fun W hSw=>?_) ?_
   rotate_left
   ·(have hq:=HSN.out W hSw);(try simp only [lgt,lgz,lgs]);go_simp;any_goals (with_reducible rfl)
   simp only [Act.put,lgt,lgz,lgs,lzt,lsz,lss]
   refine headW_take 2 _ ?_ (fun _ _ d _ _ h=>by cases d <;> exact h) (by kernel_rfl) rfl (by kernel_rfl) P.out (by rfl) (fun W hSw=>?_) ?_
   rotate_left
   ·(have hq:=HSN.out W hSw);(try simp only [lgt,lgz,lgs]);go_simp;any_goals (with_reducible rfl)
   simp only [Act.put,lgt,lgz,lgs,lzt,lsz,lss]
   refine headW_take 5 _ ?_ (fun _ _ d _ _ h=>by cases d <;> exact h) (by kernel_rfl) rfl (by kernel_rfl) P.out (by rfl) (fun W hSw=>?_) ?_
   rotate_left
   ·(have hq:=HSN.out W hSw);(try simp only [lgt,lgz,lgs]);go_simp;any_goals (with_reducible rfl)
   simp only [Act.put,lgt,lgz,lgs,lzt,lsz,lss]
   refine headW_ready [3,6] (by kernel_rfl) (by rfl) ?_
   refine eachW_step rfl rfl (fun K hK=>?_) (eachW_step rfl rfl (fun K hK=>?_) eachW_nil)
   ·(try simp only [lgt,lgz,lgs])
    go_simp
    have hn1:New w5 (w5.alloc (.cells #[.string ⟨#[120,45,111,110,101]⟩,.string ⟨#[88,45,79,110,101]⟩,.string ⟨#[120,45,116,119,111]⟩] 9)):=(Mod.refl _ _).alloc _
    have B6:=hId (Blk.new w5 9 #[.string ⟨#[120,45,111,110,101]⟩,.string ⟨#[88,45,79,110,101]⟩,.string ⟨#[120,45,116,119,111]⟩])
    have hbg6:b<w5.heap.size:=T.inv.lt
    have T':=T.new hn1
    have HO':=hId (HO.out.new hn1)
    have R':=hId (R.out.new2 hn1)
    have P':=hId (P.out.new2 hn1)
    clear T HO R P
    have T:=T'
    have HO:=HO'
    have R:=R'
    have P:=P'
    clear T' HO' R' P'
    refine hK.out _ _ P.out (fun _=>?_)
    clear hK K hn1
    (try simp only [Act.put,lgt,lgz,lgs,lzt,lsz,lss])
    generalize w5.alloc (.cells #[.string ⟨#[120,45,111,110,101]⟩,.string ⟨#[88,45,79,110,101]⟩,.string ⟨#[120,45,116,119,111]⟩] 9)=w6 at *
    generalize w5.heap.size=g6 at *
    refine headW_ready [4,6] (by kernel_rfl) (by rfl) ?_
    refine eachW_step rfl rfl (fun K hK=>?_) (eachW_step rfl rfl (fun K hK=>?_) eachW_nil)
    ·(try simp only [lgt,lgz,lgs])
     go_simp
     refine(some_any [⟨#[120,45,111,110,101]⟩,⟨#[88,45,79,110,101]⟩,⟨#[120,45,116,119,111]⟩] b _ g6 3 w6 T.inv (by omega) B6.out rfl (by omega) (by omega)).mono ?_
     rintro e w7 ⟨s1,rfl,hmem,hx⟩
     have zs1:s1.size≤10:=by
      simp only [List.mem_cons,List.not_mem_nil,or_false]at hmem
      rcases hmem with rfl | rfl | rfl <;> decide
     clear hmem
     have T':=T.trans hx
     have HO':=hId (HO.out.mod hx.only (fun g e e2=>by have:=HO.out.farP g e;omega))
     have R':=hId (R.out.mod hx.only (by omega))
     have P':=hId (P.out.mod hx.only (by omega))
     clear T HO R P
     have T:=T'
     have HO:=HO'
     have R:=R'
     have P:=P'
     clear T' HO' R' P'
     go_wp2_with fail
     refine hK.out _ _ P.out (fun _=>?_)
     clear hK K hx
     (try simp only [Act.put,lgt,lgz,lgs,lzt,lsz,lss])
     refine headW_ready [6] (by kernel_rfl) (by rfl) ?_
     refine eachW_step rfl rfl (fun K hK=>?_) eachW_nil
     (try simp only [lgt,lgz,lgs])
     go_simp
     have hn1:New w7 (w7.alloc (.cells #[.string ⟨#[49]⟩,.string ⟨#[50]⟩,.string ⟨#[]⟩] 9)):=(Mod.refl _ _).alloc _
     have Ba:=hId (Blk.new w7 9 #[.string ⟨#[49]⟩,.string ⟨#[50]⟩,.string ⟨#[]⟩])
     have hbga:b<w7.heap.size:=T.inv.lt
     have T':=T.new hn1
     have HO':=hId (HO.out.new hn1)
     have R':=hId (R.out.new2 hn1)
     have P':=hId (P.out.new2 hn1)
     clear T HO R P
     have T:=T'
     have HO:=HO'
     have R:=R'
     have P:=P'
     clear T' HO' R' P'
     refine hK.out _ _ P.out (fun _=>?_)
     clear hK K hn1
     (try simp only [Act.put,lgt,lgz,lgs,lzt,lsz,lss])
     generalize w7.alloc (.cells #[.string ⟨#[49]⟩,.string ⟨#[50]⟩,.string ⟨#[]⟩] 9)=wa at *
     generalize w7.heap.size=ga at *
     refine headW_ready [7] (by kernel_rfl) (by rfl) ?_
     refine eachW_step rfl rfl (fun K hK=>?_) eachW_nil
     (try simp only [lgt,lgz,lgs])
     go_simp
     refine(some_any [⟨#[49]⟩,⟨#[50]⟩,⟨#[]⟩] b _ ga 3 wa T.inv (by omega) Ba.out rfl (by omega) (by omega)).mono ?_
     rintro e wb ⟨s2,rfl,hmem,hx⟩
     have zs2:s2.size≤10:=by
      simp only [List.mem_cons,List.not_mem_nil,or_false]at hmem
      rcases hmem with rfl | rfl | rfl <;> decide
     clear hmem
     have T':=T.trans hx
     have HO':=hId (HO.out.mod hx.only (fun g e e2=>by have:=HO.out.farP g e;omega))
     have R':=hId (R.out.mod hx.only (by omega))
     have P':=hId (P.out.mod hx.only (by omega))
     clear T HO R P
     have T:=T'
     have HO:=HO'
     have R:=R'
     have P:=P'
     clear T' HO' R' P'
     go_wp2_with fail
     refine hK.out _ _ P.out (fun _=>?_)
     clear hK K hx
     (try simp only [Act.put,lgt,lgz,lgs,lzt,lsz,lss])
     refine headW_take 8 _ ?_ (fun _ _ d _ _ h=>by cases d <;> exact h) (by kernel_rfl) rfl (by kernel_rfl) P.out (by rfl) (fun W hSw=>?_) ?_
     rotate_left
     ·(have hq:=HSN.out W hSw);(try simp only [lgt,lgz,lgs]);go_simp;any_goals (with_reducible rfl)
     simp only [Act.put,lgt,lgz,lgs,lzt,lsz,lss]
     refine headW_ready [9] (by kernel_rfl) (by rfl) ?_
     refine eachW_step rfl rfl (fun K hK=>?_) eachW_nil
     (try simp only [lgt,lgz,lgs])
     go_simp
     have hn1:New wb (wb.alloc (.cells #[.string s1,.string s2] 54)):=(Mod.refl _ _).alloc _
     have HBH:=hId (Blk.new wb 54 #[.string s1,.string s2])
     have T':=T.new hn1
     have HO':=hId (HO.out.new hn1)
     have R':=hId (R.out.new2 hn1)
     have P':=hId (P.out.new2 hn1)
     clear T HO R P
     have T:=T'
     have HO:=HO'
     have R:=R'
     have P:=P'
     clear T' HO' R' P'
     refine hK.out _ _ P.out (fun _=>?_)
     clear hK K hn1
     (try simp only [Act.put,lgt,lgz,lgs,lzt,lsz,lss])
     generalize wb.alloc (.cells #[.string s1,.string s2] 54)=wh at *
     generalize wb.heap.size=gh at *
     refine headW_ready [10] (by kernel_rfl) (by rfl) ?_
     refine eachW_step rfl rfl (fun K hK=>?_) eachW_nil
     have hoq:=HO.out
     have hblh:=HBH.out
     have hszh:pb+1≤wh.heap.size:=P.out.lt
     have HFAR:Hid (∀ g,blkOf A=some g→pb+1≤g):=hId (fun g e=>HO.out.farP g e)
     refine wp_push (.tmp 19) (.tmp 27) _ rfl 32 Tryz.underlying31 einfo_hdr rfl (by exact hoq) (s1,s2) gh rfl (by exact hblh) (fun j hj=>pairEnc_one _ j hj) (by omega) (by omega) (by omega) ?_
     intro g8 cap8 w8 own8 hm8 hat8 hlt8
     have P8:=hId (P.out.mod hm8 (fun e=>by have:=HFAR.out _ e;omega))
     have R8:=hId (R.out.mod hm8 (fun e=>by have:=HFAR.out _ e;omega))
     have T8:=T.mod0 hm8 (fun i e=>by have:=HFAR.out i e;omega)
     refine hK.out _ _ P8.out (fun _=>?_)
     clear hK K hoq hblh hszh hat8 hlt8 hm8
     (try simp only [Act.put,lgt,lgz,lgs,lzt,lsz,lss])
     refine headW_done (by kernel_rfl) ?_
     have HO8:=hId own8
     clear own8 HO T P R HBH
     have hcp:=P8.out.cell
     have hfp:=P8.out.frozen
     have plt:=P8.out.lt
     have P9:=hId (P8.out.set 6 (.slice (some ⟨g8,0,none⟩) (j+1) cap8))
     have hmS:Mod (fun q=>q=pb) w8 (World.setCell w8 ⟨pb,6,none⟩ (.slice (some ⟨g8,0,none⟩) (j+1) cap8)):=Mod.setCell (S:=fun q=>q=pb) (p:=⟨pb,6,none⟩) (Mod.refl _ _) (.inl rfl) _
     have R9:=hId (R8.out.mod hmS hpr)
     have T9:=hId (T8.mod0 hmS (fun i e=>by omega))
     have HO9:=hId (HO8.out.mod hmS (fun g e e2=>by have:=HO8.out.farP g e;omega))
     clear hmS T8 R8 P8 HO8
     go_wp2_with fail
     clear hcp hfp
     go_roundw
     case rel=>exact⟨j+1,some ⟨g8,0,none⟩,j+1,cap8,_,by omega,by go_num,rfl,R9,P9,HO9,hId (T9.out.more (by omega)),P9.out.lt,hId (HSM.out.snoc (by omega) (by omega))⟩
     case measure=>simp [intOf];omega
    ·(try simp only [lgt,lgz,lgs])
     go_simp
     have hn1:New w6 (w6.alloc (.cells #[.string ⟨#[49]⟩,.string ⟨#[50]⟩,.string ⟨#[]⟩] 9)):=(Mod.refl _ _).alloc _
     have B7:=hId (Blk.new w6 9 #[.string ⟨#[49]⟩,.string ⟨#[50]⟩,.string ⟨#[]⟩])
     have hbg7:b<w6.heap.size:=T.inv.lt
     have T':=T.new hn1
     have HO':=hId (HO.out.new hn1)
     have R':=hId (R.out.new2 hn1)
     have P':=hId (P.out.new2 hn1)
     clear T HO R P
     have T:=T'
     have HO:=HO'
     have R:=R'
     have P:=P'
     clear T' HO' R' P'
     have B6':=hId (B6.out.new2 hn1)
     refine hK.out _ _ P.out (fun _=>?_)
     clear hK K hn1
     (try simp only [Act.put,lgt,lgz,lgs,lzt,lsz,lss])
     generalize w6.alloc (.cells #[.string ⟨#[49]⟩,.string ⟨#[50]⟩,.string ⟨#[]⟩] 9)=w7 at *
     generalize w6.heap.size=g7 at *
     refine headW_ready [4] (by kernel_rfl) (by rfl) ?_
     refine eachW_step rfl rfl (fun K hK=>?_) eachW_nil
     (try simp only [lgt,lgz,lgs])
     go_simp
     refine(some_any [⟨#[120,45,111,110,101]⟩,⟨#[88,45,79,110,101]⟩,⟨#[120,45,116,119,111]⟩] b _ g6 3 w7 T.inv (by omega) B6'.out rfl (by omega) (by omega)).mono ?_
     rintro e wa ⟨s1,rfl,hmem,hx⟩
     have zs1:s1.size≤10:=by
      simp only [List.mem_cons,List.not_mem_nil,or_false]at hmem
      rcases hmem with rfl | rfl | rfl <;> decide
     clear hmem
     have T':=T.trans hx
     have HO':=hId (HO.out.mod hx.only (fun g e e2=>by have:=HO.out.farP g e;omega))
     have R':=hId (R.out.mod hx.only (by omega))
     have P':=hId (P.out.mod hx.only (by omega))
     clear T HO R P
     have T:=T'
     have HO:=HO'
     have R:=R'
     have P:=P'
     clear T' HO' R' P'
     have B7':=hId (B7.out.mod hx.only (by omega))
     go_wp2_with fail
     refine hK.out _ _ P.out (fun _=>?_)
     clear hK K hx
     (try simp only [Act.put,lgt,lgz,lgs,lzt,lsz,lss])
     refine headW_ready [7] (by kernel_rfl) (by rfl) ?_
     refine eachW_step rfl rfl (fun K hK=>?_) eachW_nil
     (try simp only [lgt,lgz,lgs])
     go_simp
     refine(some_any [⟨#[49]⟩,⟨#[50]⟩,⟨#[]⟩] b _ g7 3 wa T.inv (by omega) B7'.out rfl (by omega) (by omega)).mono ?_
     rintro e wb ⟨s2,rfl,hmem,hx⟩
     have zs2:s2.size≤10:=by
      simp only [List.mem_cons,List.not_mem_nil,or_false]at hmem
      rcases hmem with rfl | rfl | rfl <;> decide
     clear hmem
     have T':=T.trans hx
     have HO':=hId (HO.out.mod hx.only (fun g e e2=>by have:=HO.out.farP g e;omega))
     have R':=hId (R.out.mod hx.only (by omega))
     have P':=hId (P.out.mod hx.only (by omega))
     clear T HO R P
     have T:=T'
     have HO:=HO'
     have R:=R'
     have P:=P'
     clear T' HO' R' P'
     go_wp2_with fail
     refine hK.out _ _ P.out (fun _=>?_)
     clear hK K hx
     (try simp only [Act.put,lgt,lgz,lgs,lzt,lsz,lss])
     refine headW_take 8 _ ?_ (fun _ _ d _ _ h=>by cases d <;> exact h) (by kernel_rfl) rfl (by kernel_rfl) P.out (by rfl) (fun W hSw=>?_) ?_
     rotate_left
     ·(have hq:=HSN.out W hSw);(try simp only [lgt,lgz,lgs]);go_simp;any_goals (with_reducible rfl)
     simp only [Act.put,lgt,lgz,lgs,lzt,lsz,lss]
     refine headW_ready [9] (by kernel_rfl) (by rfl) ?_
     refine eachW_step rfl rfl (fun K hK=>?_) eachW_nil
     (try simp only [lgt,lgz,lgs])
     go_simp
     have hn1:New wb (wb.alloc (.cells #[.string s1,.string s2] 54)):=(Mod.refl _ _).alloc _
     have HBH:=hId (Blk.new wb 54 #[.string s1,.string s2])
     have T':=T.new hn1
     have HO':=hId (HO.out.new hn1)
     have R':=hId (R.out.new2 hn1)
     have P':=hId (P.out.new2 hn1)
     clear T HO R P
     have T:=T'
     have HO:=HO'
     have R:=R'
     have P:=P'
     clear T' HO' R' P'
     refine hK.out _ _ P.out (fun _=>?_)
     clear hK K hn1
     (try simp only [Act.put,lgt,lgz,lgs,lzt,lsz,lss])
     generalize wb.alloc (.cells #[.string s1,.string s2] 54)=wh at *
     generalize wb.heap.size=gh at *
     refine headW_ready [10] (by kernel_rfl) (by rfl) ?_
     refine eachW_step rfl rfl (fun K hK=>?_) eachW_nil
     have hoq:=HO.out
     have hblh:=HBH.out
     have hszh:pb+1≤wh.heap.size:=P.out.lt
     have HFAR:Hid (∀ g,blkOf A=some g→pb+1≤g):=hId (fun g e=>HO.out.farP g e)
     refine wp_push (.tmp 19) (.tmp 27) _ rfl 32 Tryz.underlying31 einfo_hdr rfl (by exact hoq) (s1,s2) gh rfl (by exact hblh) (fun j hj=>pairEnc_one _ j hj) (by omega) (by omega) (by omega) ?_
     intro g8 cap8 w8 own8 hm8 hat8 hlt8
     have P8:=hId (P.out.mod hm8 (fun e=>by have:=HFAR.out _ e;omega))
     have R8:=hId (R.out.mod hm8 (fun e=>by have:=HFAR.out _ e;omega))
     have T8:=T.mod0 hm8 (fun i e=>by have:=HFAR.out i e;omega)
     refine hK.out _ _ P8.out (fun _=>?_)
     clear hK K hoq hblh hszh hat8 hlt8 hm8
     (try simp only [Act.put,lgt,lgz,lgs,lzt,lsz,lss])
     refine headW_done (by kernel_rfl) ?_
     have HO8:=hId own8
     clear own8 HO T P R HBH
     have hcp:=P8.out.cell
     have hfp:=P8.out.frozen
     have plt:=P8.out.lt
     have P9:=hId (P8.out.set 6 (.slice (some ⟨g8,0,none⟩) (j+1) cap8))
     have hmS:Mod (fun q=>q=pb) w8 (World.setCell w8 ⟨pb,6,none⟩ (.slice (some ⟨g8,0,none⟩) (j+1) cap8)):=Mod.setCell (S:=fun q=>q=pb) (p:=⟨pb,6,none⟩) (Mod.refl _ _) (.inl rfl) _
     have R9:=hId (R8.out.mod hmS hpr)
     have T9:=hId (T8.mod0 hmS (fun i e=>by omega))
     have HO9:=hId (HO8.out.mod hmS (fun g e e2=>by have:=HO8.out.farP g e;omega))
     clear hmS T8 R8 P8 HO8
     go_wp2_with fail
     clear hcp hfp
     go_roundw
     case rel=>exact⟨j+1,some ⟨g8,0,none⟩,j+1,cap8,_,by omega,by go_num,rfl,R9,P9,HO9,hId (T9.out.more (by omega)),P9.out.lt,hId (HSM.out.snoc (by omega) (by omega))⟩
     case measure=>simp [intOf];omega
   ·(try simp only [lgt,lgz,lgs])
    go_simp
    have hn1:New w5 (w5.alloc (.cells #[.string ⟨#[49]⟩,.string ⟨#[50]⟩,.string ⟨#[]⟩] 9)):=(Mod.refl _ _).alloc _
    have B6:=hId (Blk.new w5 9 #[.string ⟨#[49]⟩,.string ⟨#[50]⟩,.string ⟨#[]⟩])
    have hbg6:b<w5.heap.size:=T.inv.lt
    have T':=T.new hn1
    have HO':=hId (HO.out.new hn1)
    have R':=hId (R.out.new2 hn1)
    have P':=hId (P.out.new2 hn1)
    clear T HO R P
    have T:=T'
    have HO:=HO'
    have R:=R'
    have P:=P'
    clear T' HO' R' P'
    refine hK.out _ _ P.out (fun _=>?_)
    clear hK K hn1
    (try simp only [Act.put,lgt,lgz,lgs,lzt,lsz,lss])
    generalize w5.alloc (.cells #[.string ⟨#[49]⟩,.string ⟨#[50]⟩,.string ⟨#[]⟩] 9)=w6 at *
    generalize w5.heap.size=g6 at *
    refine headW_ready [3] (by kernel_rfl) (by rfl) ?_
    refine eachW_step rfl rfl (fun K hK=>?_) eachW_nil
    (try simp only [lgt,lgz,lgs])
    go_simp
    have hn1:New w6 (w6.alloc (.cells #[.string ⟨#[120,45,111,110,101]⟩,.string ⟨#[88,45,79,110,101]⟩,.string ⟨#[120,45,116,119,111]⟩] 9)):=(Mod.refl _ _).alloc _
    have B7:=hId (Blk.new w6 9 #[.string ⟨#[120,45,111,110,101]⟩,.string ⟨#[88,45,79,110,101]⟩,.string ⟨#[120,45,116,119,111]⟩])
    have hbg7:b<w6.heap.size:=T.inv.lt
    have T':=T.new hn1
    have HO':=hId (HO.out.new hn1)
    have R':=hId (R.out.new2 hn1)
    have P':=hId (P.out.new2 hn1)
    clear T HO R P
    have T:=T'
    have HO:=HO'
    have R:=R'
    have P:=P'
    clear T' HO' R' P'
    have B6':=hId (B6.out.new2 hn1)
    refine hK.out _ _ P.out (fun _=>?_)
    clear hK K hn1
    (try simp only [Act.put,lgt,lgz,lgs,lzt,lsz,lss])
    generalize w6.alloc (.cells #[.string ⟨#[120,45,111,110,101]⟩,.string ⟨#[88,45,79,110,101]⟩,.string ⟨#[120,45,116,119,111]⟩] 9)=w7 at *
    generalize w6.heap.size=g7 at *
    refine headW_ready [4] (by kernel_rfl) (by rfl) ?_
    refine eachW_step rfl rfl (fun K hK=>?_) eachW_nil
    (try simp only [lgt,lgz,lgs])
    go_simp
    refine(some_any [⟨#[120,45,111,110,101]⟩,⟨#[88,45,79,110,101]⟩,⟨#[120,45,116,119,111]⟩] b _ g7 3 w7 T.inv (by omega) B7.out rfl (by omega) (by omega)).mono ?_
    rintro e wa ⟨s1,rfl,hmem,hx⟩
    have zs1:s1.size≤10:=by
     simp only [List.mem_cons,List.not_mem_nil,or_false]at hmem
     rcases hmem with rfl | rfl | rfl <;> decide
    clear hmem
    have T':=T.trans hx
    have HO':=hId (HO.out.mod hx.only (fun g e e2=>by have:=HO.out.farP g e;omega))
    have R':=hId (R.out.mod hx.only (by omega))
    have P':=hId (P.out.mod hx.only (by omega))
    clear T HO R P
    have T:=T'
    have HO:=HO'
    have R:=R'
    have P:=P'
    clear T' HO' R' P'
    have B6q:=hId (B6'.out.mod hx.only (by omega))
    go_wp2_with fail
    refine hK.out _ _ P.out (fun _=>?_)
    clear hK K hx
    (try simp only [Act.put,lgt,lgz,lgs,lzt,lsz,lss])
    refine headW_ready [7] (by kernel_rfl) (by rfl) ?_
    refine eachW_step rfl rfl (fun K hK=>?_) eachW_nil
    (try simp only [lgt,lgz,lgs])
    go_simp
    refine(some_any [⟨#[49]⟩,⟨#[50]⟩,⟨#[]⟩] b _ g6 3 wa T.inv (by omega) B6q.out rfl (by omega) (by omega)).mono ?_
    rintro e wb ⟨s2,rfl,hmem,hx⟩
    have zs2:s2.size≤10:=by
     simp only [List.mem_cons,List.not_mem_nil,or_false]at hmem
     rcases hmem with rfl | rfl | rfl <;> decide
    clear hmem
    have T':=T.trans hx
    have HO':=hId (HO.out.mod hx.only (fun g e e2=>by have:=HO.out.farP g e;omega))
    have R':=hId (R.out.mod hx.only (by omega))
    have P':=hId (P.out.mod hx.only (by omega))
    clear T HO R P
    have T:=T'
    have HO:=HO'
    have R:=R'
    have P:=P'
    clear T' HO' R' P'
    go_wp2_with fail
    refine hK.out _ _ P.out (fun _=>?_)
    clear hK K hx
    (try simp only [Act.put,lgt,lgz,lgs,lzt,lsz,lss])
    refine headW_take 8 _ ?_ (fun _ _ d _ _ h=>by cases d <;> exact h) (by kernel_rfl) rfl (by kernel_rfl) P.out (by rfl) (fun W hSw=>?_) ?_
    rotate_left
    ·(have hq:=HSN.out W hSw);(try simp only [lgt,lgz,lgs]);go_simp;any_goals (with_reducible rfl)
    simp only [Act.put,lgt,lgz,lgs,lzt,lsz,lss]
    refine headW_ready [9] (by kernel_rfl) (by rfl) ?_
    refine eachW_step rfl rfl (fun K hK=>?_) eachW_nil
    (try simp only [lgt,lgz,lgs])
    go_simp
    have hn1:New wb (wb.alloc (.cells #[.string s1,.string s2] 54)):=(Mod.refl _ _).alloc _
    have HBH:=hId (Blk.new wb 54 #[.string s1,.string s2])
    have T':=T.new hn1
    have HO':=hId (HO.out.new hn1)
    have R':=hId (R.out.new2 hn1)
    have P':=hId (P.out.new2 hn1)
    clear T HO R P
    have T:=T'
    have HO:=HO'
    have R:=R'
    have P:=P'
    clear T' HO' R' P'
    refine hK.out _ _ P.out (fun _=>?_)
    clear hK K hn1
    (try simp only [Act.put,lgt,lgz,lgs,lzt,lsz,lss])
    generalize wb.alloc (.cells #[.string s1,.string s2] 54)=wh at *
    generalize wb.heap.size=gh at *
    refine headW_ready [10] (by kernel_rfl) (by rfl) ?_
    refine eachW_step rfl rfl (fun K hK=>?_) eachW_nil
    have hoq:=HO.out
    have hblh:=HBH.out
    have hszh:pb+1≤wh.heap.size:=P.out.lt
    have HFAR:Hid (∀ g,blkOf A=some g→pb+1≤g):=hId (fun g e=>HO.out.farP g e)
    refine wp_push (.tmp 19) (.tmp 27) _ rfl 32 Tryz.underlying31 einfo_hdr rfl (by exact hoq) (s1,s2) gh rfl (by exact hblh) (fun j hj=>pairEnc_one _ j hj) (by omega) (by omega) (by omega) ?_
    intro g8 cap8 w8 own8 hm8 hat8 hlt8
    have P8:=hId (P.out.mod hm8 (fun e=>by have:=HFAR.out _ e;omega))
    have R8:=hId (R.out.mod hm8 (fun e=>by have:=HFAR.out _ e;omega))
    have T8:=T.mod0 hm8 (fun i e=>by have:=HFAR.out i e;omega)
    refine hK.out _ _ P8.out (fun _=>?_)
    clear hK K hoq hblh hszh hat8 hlt8 hm8
    (try simp only [Act.put,lgt,lgz,lgs,lzt,lsz,lss])
    refine headW_done (by kernel_rfl) ?_
    have HO8:=hId own8
    clear own8 HO T P R HBH
    have hcp:=P8.out.cell
    have hfp:=P8.out.frozen
    have plt:=P8.out.lt
    have P9:=hId (P8.out.set 6 (.slice (some ⟨g8,0,none⟩) (j+1) cap8))
    have hmS:Mod (fun q=>q=pb) w8 (World.setCell w8 ⟨pb,6,none⟩ (.slice (some ⟨g8,0,none⟩) (j+1) cap8)):=Mod.setCell (S:=fun q=>q=pb) (p:=⟨pb,6,none⟩) (Mod.refl _ _) (.inl rfl) _
    have R9:=hId (R8.out.mod hmS hpr)
    have T9:=hId (T8.mod0 hmS (fun i e=>by omega))
    have HO9:=hId (HO8.out.mod hmS (fun g e e2=>by have:=HO8.out.farP g e;omega))
    clear hmS T8 R8 P8 HO8
    go_wp2_with fail
    clear hcp hfp
    go_roundw
    case rel=>exact⟨j+1,some ⟨g8,0,none⟩,j+1,cap8,_,by omega,by go_num,rfl,R9,P9,HO9,hId (T9.out.more (by omega)),P9.out.lt,hId (HSM.out.snoc (by omega) (by omega))⟩
    case measure=>simp [intOf];omega
  ·have hjm:(j:Int)=m:=by omega
   go_wp2_with fail
   refine(flip_any b _ 15 wr T.inv (by omega) (by omega) (by omega)).mono ?_
   rintro e w6 ⟨q,rfl,hx⟩
   clear HT
   have HO6:=hId (HO.out.mod hx.only (fun g e e2=>by have:=HO.out.farP g e;omega))
   have P':=hId (P.out.mod hx.only (by omega))
   have R':=hId (R.out.mod hx.only (by omega))
   have T':=T.trans hx
   have z':=hx.only.size
   clear R T hx
   have R:=R'
   have T:=T'
   clear R' T'
   clear P
   have P:=P'
   clear P'
   clear z' HO
   have HO:=HO6
   clear HO6
   have HF:Hid (ReqD.Fit ⟨0,me,ho,pa,⟨#[]⟩,⟨#[]⟩,A,j,c,⟨#[]⟩⟩ ls):=hId ⟨by unfold I64;(try dsimp only);omega,hme,hho,hpa,⟨by show(⟨#[]⟩:ByteArray).size≤_;decide,few_small (s:=(⟨#[]⟩:ByteArray)) (by decide)⟩,(by show(⟨#[]⟩:ByteArray).size≤_;decide),(by show(⟨#[]⟩:ByteArray).size≤_;decide),by(try dsimp only);omega,HSM.out⟩
   cases q
   ·have hcP:=P.out.cell
    have hcR:=R.out.cell
    have hfR:=R.out.frozen
    have plt:=P.out.lt
    have rlt:=R.out.lt
    have hmF:=fun(v0 v1 v2 v3 v4 v5 v6 v7:Value)=>(Mod.set8 rb w6 v0 v1 v2 v3 v4 v5 v6 v7)
    have HMF:=hId hmF
    have HFIN:Hid (∀ W',Mod (fun k=>k=rb) w6 W'→HOwn W' rb A j c ls∧SStep b w W' (k+600)):=hId (fun W' hm=>⟨(HO.out.mod hm (fun g e=>by have:=HO.out.farP g e;omega)).less (by omega),(T.mod0 hm (by intro i e;omega)).more (by omega)⟩)
    clear hmF P R T HO
    go_wp2_with fail
    refine bodyPost_ret (v:=ReqD.val ⟨0,me,ho,pa,⟨#[]⟩,⟨#[]⟩,A,j,c,⟨#[]⟩⟩) (by simp [results,Tryz.results5,go_sem,hcP,hcR,hfR,plt,rlt,hpr,ReqD.val]) rfl ?_
    refine⟨⟨0,me,ho,pa,⟨#[]⟩,⟨#[]⟩,A,j,c,⟨#[]⟩⟩,ls,rfl,(by rw [hrb];exact(HFIN.out _ (HMF.out _ _ _ _ _ _ _ _)).1),HF.out,(HFIN.out _ (HMF.out _ _ _ _ _ _ _ _)).2⟩
   ·go_wp2_with fail
    refine(request_full b _ w6 T.inv (by omega)).mono ?_
    rintro e w7 ⟨⟨at7,me7,ho7,pa7,qu7,fr7,A7,n7,c7,bo7⟩,ls7,rfl,own7,fit7,hx⟩
    have R':=hId (R.out.mod hx.only (by omega))
    have T':=T.trans hx
    have P6:=P
    clear R T hx P
    have R:=R'
    have T:=T'
    clear R' T'
    have hcR:=R.out.cell
    have hfR:=R.out.frozen
    have rlt:=R.out.lt
    have HMF:=hId (fun (v0 v1 v2 v3 v4 v5 v6 v7:Value)=>(Mod.set8 rb w7 v0 v1 v2 v3 v4 v5 v6 v7))
    have hz6:rb<w6.heap.size:=by have:=P6.out.lt;omega
    have HFIN:Hid (∀ W',Mod (fun k=>k=rb) w7 W'→HOwn W' rb A7 n7 c7 ls7∧SStep b w W' (k+600)):=hId (fun W' hm=>⟨(own7.mod hm (fun g e=>by have:=own7.farP g e;omega)).less (by omega),(T.mod0 hm (by intro i e;omega)).more (by omega)⟩)
    have HF7:=hId fit7
    clear R T own7 fit7 HO HF P6
    unfold ReqD.val
    simp only
    go_wp2_with fail
    refine bodyPost_ret (v:=ReqD.val ⟨at7,me7,ho7,pa7,qu7,fr7,A7,n7,c7,bo7⟩) (by simp [results,Tryz.results5,go_sem,hcR,hfR,rlt,ReqD.val]) rfl ?_
    exact⟨_,ls7,rfl,(by rw [hrb];exact(HFIN.out _ (HMF.out _ _ _ _ _ _ _ _)).1),HF7.out,(HFIN.out _ (HMF.out _ _ _ _ _ _ _ _)).2⟩
end Go.Proofs.YtnlloaimplgjnaaGreatDoor
