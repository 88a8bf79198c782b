/-
  For every list of ints the law RoutesRewrite returns true, and nothing that was there has turned: the tied card. Conditions: those of the card (the listed library tables lie as the program's text lays them; the card ties that).
  The frame of the row's step is the kit's own toy and shell, turned to this claim.
-/
import Derived.Test.YtnlloaimplgjnaaGreatDoorRRewLaw
import Derived.Test.YtnlloaimplgjnaaGreatDoorCards
import Derived.Test.YtnlloaimplgjnaaGreatDoorTie
import Derived.ProofKit
import Derived.OpenShut
import Derived.ShutString
import Derived.ChangeOld
import Derived.Deep.DeepHandedRow
import Derived.Lay
import Derived.LaidSub
import Derived.Stop.LaidErr
import Derived.Deep.DeepWitnessRowRef
namespace Go.Proofs.YtnlloaimplgjnaaGreatDoor.routesRewrite
open Go.ChangeShapes Go.WideShapes Go.ChangeAt Go.RowKit
open Go.ChangeMaps (open_string shut_string)
set_option linter.unusedVariables false
theorem own:ownKnob Tryz.prog.godebug=none:=by kernel_rfl
theorem laidOut:laidOutB Tryz.prog=true:=by kernel_rfl
theorem gTab : Tryz.prog.globalNamed "internal/strconv.uint64pow10" = some 6 := by kernel_rfl
theorem gTabType:(Tryz.prog.globals[6]?).map (·.type)=some 272:=by kernel_rfl
theorem cellsTab:Tryz.prog.cellsOf 272=20:=by kernel_rfl
theorem cellsU64:Tryz.prog.cellsOf 169=1:=by kernel_rfl
theorem maxLn {W:World} (h:W.ShapedOpen Tryz.prog):∃ m,W.cell? ⟨0,0,none⟩=some (.int .i64 m):=
 Go.Proofs.cell_of_shapedOpen_int (zero:=#[.int .i64 0]) (t:=3) h (of_decide_eq_true (by kernel_rfl)) (by kernel_rfl) rfl (by kernel_rfl) (by kernel_rfl) Tryz.underlying3
theorem gErr : Tryz.prog.globalNamed "strconv.ErrSyntax" = some 2 := by kernel_rfl
theorem gErrType:(Tryz.prog.globals[2]?).map (·.type)=some 112:=by kernel_rfl
theorem cellsErr:Tryz.prog.cellsOf 270=1:=by kernel_rfl
theorem cellsStr:Tryz.prog.cellsOf 9=1:=by kernel_rfl
theorem starErr : "*" ++ "errors.errorString" = "*errors.errorString" := by decide
theorem rowErr (u : TypeId) (h : Tryz.prog.typeName? 3 u = some "*errors.errorString") : u = 268 :=
 typeName_ptr_named (nm := "errors.errorString") (by rw [starErr]; kernel_rfl) (by kernel_rfl) (by decide) u (by rw [starErr]; exact h)
/-- what the row's list gives: strconv's error -/
theorem errSyn {W:World} (h:laidMetH Tryz.prog Rows.routesRewriteRow.laid W):ErrSyn W:=by
 have h1:laidMet Tryz.prog Rows.routesRewriteRow.laid W:=h
 have h2 := h1.filter (fun x => x.1 == "strconv.ErrSyntax")
 have e : Rows.routesRewriteRow.laid.filter (fun x => x.1 == "strconv.ErrSyntax") = [("strconv.ErrSyntax", .iface "*errors.errorString" (.ptr (.agg [.lit (.string [105, 110, 118, 97, 108, 105, 100, 32, 115, 121, 110, 116, 97, 120])])))] := by kernel_rfl
 rw [e]at h2
 obtain⟨a,s,hv,_⟩:=laid_sentinel h2 gErr gErrType Tryz.underlying112 rowErr Tryz.underlying268 Tryz.underlying270 rfl rfl Tryz.underlying9 cellsErr cellsStr
 exact⟨_,by simpa using World.var?_cell gErr hv 0,.inr ⟨_,_,rfl⟩⟩
/-- what the row's list gives: strconv's table -/
theorem table {W:World} (h:laidMetH Tryz.prog Rows.routesRewriteRow.laid W):Pow10 W:=by
 have h1:laidMet Tryz.prog Rows.routesRewriteRow.laid W:=h
 have h2 := h1.filter (fun x => x.1 == "internal/strconv.uint64pow10")
 have e : Rows.routesRewriteRow.laid.filter (fun x => x.1 == "internal/strconv.uint64pow10") = [("internal/strconv.uint64pow10", Lib.tabData .u64 Lib.pow10Tab)] := by kernel_rfl
 rw [e]at h2
 exact Lib.tabIs_of_head (rest:=[]) gTab gTabType Tryz.underlying272 Tryz.underlying169 cellsU64 cellsTab h2
def IsRow (k:IntKind) (w:World) (a:Option Addr) (len cap:Nat) (zs:List Int):Prop:=
 (a=none∧len=0∧cap=0∧zs= [])∨
 ∃ x,a=some x∧len≤cap∧cap≤maxLen∧zs.length=cap∧(∀ i,i<zs.length→w.cell? (x.add i)=some (.int k (zs.getD i 0)))∧∀ n∈zs,(Lit.int k n).wf=true
theorem inInts {w:World} {a:Option Addr} {len cap:Nat} {zs:List Int} (h:IsRow .i64 w a len cap zs):InInts w a len:=by
 rcases h with⟨rfl,rfl,_,_⟩ |⟨x,rfl,h1,h2,h3,h4,h5⟩
 ·exact⟨by unfold maxLen;omega,fun h=>absurd h (by omega)⟩
 ·refine⟨by omega,fun h0=>?_⟩
  have c0:=h4 0 (by omega)
  obtain⟨g,o,s⟩:=x
  have hx:(⟨g,o,s⟩:Addr).add 0=⟨g,o,s⟩:=by simp [Addr.add]
  rw [hx]at c0
  have hs:s=none:=by
   cases s with
   | none=>rfl
   | some k=>simp only [World.cell?]at c0;split at c0 <;> simp at c0
  subst hs
  have hg:g<w.heap.size:=by
   simp only [World.cell?]at c0
   split at c0
   ·rename_i h;exact heap_lt h
   ·cases c0
  refine⟨g,o,rfl,hg,fun i=>zs.getD i 0,fun i hi=>⟨?_,?_⟩⟩
  ·have:=h4 i (by omega)
   have hadd:(⟨g,o,none⟩:Addr).add i=⟨g,o+i,none⟩:=by unfold Addr.add;split <;> simp_all
   rwa [hadd]at this
  ·have hm:zs.getD i 0∈zs:=by
    rw [List.getD_eq_getElem?_getD,List.getElem?_eq_getElem (by omega)]
    exact List.getElem_mem _
   have:=h5 _ hm
   simpa [I64,Lit.wf,IntKind.min,IntKind.max,IntKind.signed,IntKind.bits]using this
theorem walk (a0:Option Addr) (len0 cap0:Nat) (z0:List Int) (w:World) (w0:IsRow .i64 w a0 len0 cap0 z0) (ht:Pow10 w) (hx:MaxLn w) (he:ErrSyn w):
  Calls Tryz.prog 3 #[.slice a0 len0 cap0] w fun e w'=>e= .returned (.bool true)∧Below w.heap.size w w':=
 (routesRewrite_walk a0 len0 cap0 w (inInts w0) hx ht he).mono fun _ _ h=>⟨h.1,h.2.below⟩
set_option maxRecDepth 100000 in
theorem contract (H:Type) (enc:TypeId×Value→H) (W:World) (base:Nat) (args:Array Value) (ds gs:List (DataW H)) (before:List MemPlace)
  (hval:∀(j:Nat) t v,Tryz.f3.params[j]? =some t→args[j]? =some v→Value.okWide Tryz.prog W .any base t v)
  (hW:DataW.Whole enc Tryz.prog Tryz.f3.params.toList Rows.routesRewriteSpec.vars false W args.toList ds gs before) (hL:laidMetH Tryz.prog Rows.routesRewriteRow.laid W) (hS:W.ShapedOpen Tryz.prog):
  Calls Tryz.prog 3 args W fun e W'=>∃ v,e= .returned v∧Rows.routesRewriteSpec.post enc Tryz.prog Tryz.f3 false true false false W args v W':=by
 have hW':=hW
 obtain⟨p,q,hA0,hV,rfl,hfz,hnd⟩:=hW
 have hA:DataW.TrodAll enc Tryz.prog W 0 (fun _=>true) true Tryz.f3.params.toList args.toList ds p:=hA0
 rw [Tryz.params3]at hA hval
 obtain⟨v0,vs0,d0,ds0,p0,q0,hargs,rfl,rfl,h0,r0⟩:=trodAll_cons hA
 obtain⟨rfl,rfl,rfl⟩:=trodAll_nil r0
 obtain rfl:args= #[v0]:=by cases args;simp_all
 obtain⟨rfl,rfl⟩:=trodVars_none hV
 obtain⟨a0,len0,cap0,rfl⟩:=okWide_slice Tryz.underlying22 (hval 0 22 v0 rfl rfl)
 have k0:=h0
 have lt0:∀ x∈p0,x.block<W.heap.size:=by obtain⟨m,hm⟩:=k0;exact DataW.trod_lt m _ _ _ hm
 obtain⟨z0,w0⟩:∃ zs,IsRow .i64 W a0 len0 cap0 zs:=by
  obtain⟨fuel,hf⟩:=h0
  rcases open_ints Tryz.underlying22 Tryz.underlying3 (by kernel_rfl) hf with⟨hcs,_⟩ |⟨x,l,c,zs,hcs,_,hl,hm,hz,_,hcell,hwz⟩
  ·simp [Value.cells]at hcs
   obtain⟨rfl,rfl,rfl⟩:=hcs
   exact⟨[],.inl ⟨rfl,rfl,rfl,rfl⟩⟩
  ·simp [Value.cells]at hcs
   obtain⟨rfl,rfl,rfl⟩:=hcs
   exact⟨zs,.inr ⟨_,rfl,hl,hm,by simpa using hz,hcell,hwz⟩⟩
 clear hA0
 refine(walk a0 len0 cap0 z0 W w0 (table hL) (maxLn hS) (errSyn hL)).mono fun e W' ⟨he,bel⟩=>?_
 subst he
 exact⟨_,rfl,_,_,_,[],_,[],hW',trodAll_mk1 (shut_bool Tryz.underlying4 _),(trodAll_cons_mk (Below.trod laidOut (by kernel_rfl) (of_decide_eq_true (by kernel_rfl)) k0 bel lt0) trodAll_mk0),rfl,bel.frame _,fun h=>by cases h⟩
/-- a world for the witness: the listed variables laid -/
noncomputable def laidWorld (os:Os):World:=World.laidAll Tryz.prog os Rows.routesRewriteRow.laid
theorem laid_met (os:Os):laidMet Tryz.prog Rows.routesRewriteRow.laid ((laidWorld os).forCall (fun _ _=>0) ⟨#[],#[.slice none 0 0],[]⟩).memory:=
 laidMet_laidAll #[.slice none 0 0] (by kernel_rfl) (by kernel_rfl)
theorem reads (os:Os) {H:Type} (enc:TypeId×Value→H):∃ places,DataW.whole enc Tryz.prog ((laidWorld os).forCall (fun _ _=>0) ⟨#[],#[.slice none 0 0],[]⟩).memory Tryz.f3.params.toList Rows.routesRewriteSpec.vars false #[Value.slice none 0 0].toList 8=some ([.nil],[],places):=
 ⟨[],by kernel_rfl⟩
set_option maxRecDepth 100000 in
theorem lifted (os:Os) (started:os.Started) (H:Type) (enc:TypeId×Value→H) (F:Stop.Interp):
  ReturnsInHanded {} Tryz.checked os 3 .any ((OpenSpec.ofChange Rows.routesRewriteSpec).preRow enc Tryz.prog Tryz.f3 Rows.routesRewriteRow.domain false Rows.routesRewriteRow.laid) (((OpenSpec.ofChange Rows.routesRewriteSpec).at F).post enc Tryz.prog Tryz.f3 false true false false):=by
 obtain⟨places,hx⟩:=reads os enc
 refine returnsInHanded_of_row (C:=Tryz.checked) (s:=OpenSpec.ofChange Rows.routesRewriteSpec) own started (by kernel_rfl) Tryz.func3
  (witness_row_atRef (enc:=enc) (C:=Tryz.checked) false (laidWorld os) #[.slice none 0 0] (World.laidAll_os _ _ _) (by kernel_rfl) (by kernel_rfl) (by kernel_rfl)
   (OpenSpec.preRow_of_cond 8 hx (by kernel_rfl) (fun k hk=>by cases hk) (by kernel_rfl) (laid_met os))) ?_
 intro W base args ds gs before hval hW _ _ _ hL hS _
 exact contract H enc W base args ds gs before hval hW hL hS
theorem said:Rows.RoutesRewriteSaid:=
 OpenClaim.holds_of_cond 3 Tryz.f3 rfl rfl rfl rfl rfl rfl rfl ⟨rfl,rfl,rfl,rfl,rfl⟩ rfl rfl rfl rfl rfl (by kernel_rfl) Tryz.func3 (by kernel_rfl)
  (of_decide_eq_true (by kernel_rfl)) (by unfold Func.isWrapper;first |(rw [if_pos (by decide +kernel)];kernel_rfl) |(rw [if_neg (by decide +kernel)];exact⟨rfl,rfl⟩))
  (fun os started H enc _ F=>by rw [OpenClaim.pre_eq_preRow];exact lifted os started H enc F)
/-- no parameter wants a stand-in; the program's own looks are on (as the card says) -/
theorem plain (f : FuncId) (fn : Func) (hf : Tryz.pinned.checked.prog.funcNamed "gatewarden/gatelaw1.RoutesRewrite" = some f) (hfn : Tryz.pinned.checked.prog.funcs[f]? = some fn) :
  true=Tryz.pinned.checked.prog.looks []∧∀(j:Nat) t,fn.params[j]? =some t→Tryz.pinned.checked.prog.wantsStandIn t=false:=by
 obtain rfl : f = 3 := Option.some.inj ((show Tryz.prog.funcNamed "gatewarden/gatelaw1.RoutesRewrite" = some 3 by kernel_rfl).symm.trans hf) |>.symm
 obtain rfl:fn=Tryz.f3:=(Option.some.inj (Tryz.func3.symm.trans hfn)).symm
 refine⟨by kernel_rfl,fun j t ht=>?_⟩
 rw [Tryz.params3]at ht
 obtain rfl:t=22:=by simpa using Array.mem_of_getElem? ht
 exact(show Tryz.prog.wantsStandIn 22=false by kernel_rfl)
theorem proved:Rows.RoutesRewriteCardSaid:=
 Claim7.holds_tied_plain_at .later [] _ _ _ _ said (fun _ h=>by cases h) (by kernel_rfl) (fun _ h=>by cases h) routesRewrite_row_tie rfl ⟨rfl,rfl⟩ (by kernel_rfl) rfl plain (by kernel_rfl)
#print axioms proved
end Go.Proofs.YtnlloaimplgjnaaGreatDoor.routesRewrite
