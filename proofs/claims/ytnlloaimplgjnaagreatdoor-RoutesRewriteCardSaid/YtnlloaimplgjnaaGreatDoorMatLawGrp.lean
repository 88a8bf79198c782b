/- Several texts in one. (1) Paths and their parameters, the plain law: units, the normal form of a path, its segments, matching, building. No program in sight. No conditions. (2) Bytes and words: the program's tests of bytes (packages value and message). Conditions: strings no longer than an int can count. (3) Slices that a call itself makes: what append does to them, said of lists. No conditions but lengths below 2^40. -/
import Derived.Test.YtnlloaimplgjnaaGreatDoorTplLaw
import Derived.Test.YtnlloaimplgjnaaGreatDoorWordLaw
import Derived.BigGuardPart
import Derived.Test.YtnlloaimplgjnaaGreatDoorBase
import Derived.Deep.AppendLies
namespace Go.Proofs.YtnlloaimplgjnaaGreatDoor
open Go.RowKit
set_option linter.unusedVariables false
set_option linter.unusedSimpArgs false
/-- a text's units: each a byte, and whether it stands for itself -/
def unitsL:List UInt8→Option (List (UInt8×Bool))
 | []=>some []
 | [a]=>if a=37 then none else some [(a,true)]
 | [a,b]=>if a=37 then none else(unitsL [b]).map ((a,true):: ·)
 | a::b::c::r=>if a=37 then(if isHexN b.toNat&&isHexN c.toNat then(unitsL r).map ((unitV b c,false):: ·) else none) else(unitsL (b::c::r)).map ((a,true):: ·)
theorem unitsL_plain {a:UInt8} (h:a≠37) (r:List UInt8):unitsL (a::r)=(unitsL r).map ((a,true):: ·):=by
 match r with
 | []=>simp [unitsL,h]
 | [b]=>simp only [unitsL];rw [if_neg h]
 | b::c::r=>simp only [unitsL];rw [if_neg h]
theorem unitsL_unit {b c:UInt8} (h:(isHexN b.toNat&&isHexN c.toNat)=true) (r:List UInt8):unitsL (37::b::c::r)=(unitsL r).map ((unitV b c,false):: ·):=by
 rw [unitsL,if_pos rfl,if_pos h]
theorem unitsL_at_plain {s:List UInt8} {i:Nat} (h:i<s.length) (h1:s[i]≠37):unitsL (s.drop i)=(unitsL (s.drop (i+1))).map ((s[i],true):: ·):=by
 rw [List.drop_eq_getElem_cons h,unitsL_plain h1]
theorem unitsL_at_unit {s:List UInt8} {i:Nat} (h:i<s.length) (h1:s[i]=37) (h2:unitAt s i=true):unitsL (s.drop i)=(unitsL (s.drop (i+3))).map ((unitV (s.getD (i+1) 0) (s.getD (i+2) 0),false):: ·):=by
 simp only [unitAt,Bool.and_eq_true,decide_eq_true_eq]at h2
 obtain⟨⟨h3,h4⟩,h5⟩:=h2
 have e1:s.getD (i+1) 0=s[i+1]'(by omega):=by simp [List.getD_eq_getElem?_getD,List.getElem?_eq_getElem (show i+1<s.length by omega)]
 have e2:s.getD (i+2) 0=s[i+2]'(by omega):=by simp [List.getD_eq_getElem?_getD,List.getElem?_eq_getElem (show i+2<s.length by omega)]
 rw [e1]at h4 ⊢
 rw [e2]at h5 ⊢
 rw [List.drop_eq_getElem_cons h,List.drop_eq_getElem_cons (show i+1<s.length by omega),List.drop_eq_getElem_cons (show i+1+1<s.length by omega),h1,unitsL_unit (by rw [h4];exact h5)]
theorem unitsL_at_bad {s:List UInt8} {i:Nat} (h:i<s.length) (h1:s[i]=37) (h2:unitAt s i=false):unitsL (s.drop i)=none:=by
 rw [List.drop_eq_getElem_cons h,h1]
 match hr:s.drop (i+1)with
 | []=>simp [unitsL]
 | [b]=>simp [unitsL]
 | b::c::r=>
  have hl:(s.drop (i+1)).length=r.length+2:=by rw [hr];rfl
  have hl2:i+2<s.length:=by simp only [List.length_drop]at hl;omega
  have e1:s.getD (i+1) 0=b:=by
   have:(s.drop (i+1))[0]? =some b:=by rw [hr];rfl
   simp only [List.getElem?_drop,Nat.add_zero]at this
   simp [List.getD_eq_getElem?_getD,this]
  have e2:s.getD (i+2) 0=c:=by
   have:(s.drop (i+1))[1]? =some c:=by rw [hr];rfl
   simp only [List.getElem?_drop]at this
   simp [List.getD_eq_getElem?_getD,show i+2=i+1+1 from rfl,this]
  unfold unitAt at h2
  rw [e1,e2,decide_eq_true hl2]at h2
  rw [unitsL,if_pos rfl,if_neg (by rw [Bool.true_and]at h2;rw [h2];decide)]
/-- what the units stand for is what decoding gives -/
theorem decL_units:∀(n:Nat) (s:List UInt8),s.length≤n→decL s=(unitsL s).map (·.map Prod.fst)
 | _,[],_=>by simp [decL,unitsL]
 | 0,a::r,hn=>by simp at hn
 | n+1,a::r,hn=>by
  have hn':r.length≤n:=by simpa using hn
  by_cases e:a=37
  ·subst e
   match r,hn' with
   | [],_=>simp [decL,unitsL]
   | [b],_=>simp [decL,unitsL]
   | b::c::r,hn'=>
    rw [decL,if_pos rfl,unitsL,if_pos rfl]
    split
    ·rw [decL_units n r (by simp only [List.length_cons]at hn';omega)]
     cases unitsL r <;> simp
    ·rfl
  ·rw [decL_plain e,unitsL_plain e,decL_units n r hn']
   cases unitsL r <;> simp
theorem unitsL_length:∀(n:Nat) (s:List UInt8) (u:List (UInt8×Bool)),s.length≤n→unitsL s=some u→u.length≤s.length
 | _,[],u,_,h=>by simp [unitsL]at h;subst h;simp
 | 0,a::r,u,hn,h=>by simp at hn
 | n+1,a::r,u,hn,h=>by
  have hn':r.length≤n:=by simpa using hn
  by_cases e:a=37
  ·subst e
   match r,h,hn' with
   | [],h,_=>simp [unitsL]at h
   | [b],h,_=>simp [unitsL]at h
   | b::c::r,h,hn'=>
    rw [unitsL,if_pos rfl]at h
    split at h
    ·cases hd:unitsL r with
     | none=>rw [hd]at h;simp at h
     | some q=>
      rw [hd]at h
      simp only [Option.map_some,Option.some.injEq]at h
      subst h
      have:=unitsL_length n r q (by simp only [List.length_cons]at hn';omega) hd
      simp only [List.length_cons];omega
    ·cases h
  ·rw [unitsL_plain e]at h
   cases hd:unitsL r with
   | none=>rw [hd]at h;simp at h
   | some q=>
    rw [hd]at h
    simp only [Option.map_some,Option.some.injEq]at h
    subst h
    have:=unitsL_length n r q hn' hd
    simp only [List.length_cons];omega
/-- how a unit is written in the normal form -/
def pctC (c:UInt8):List UInt8:=[37,upHex (c.toNat / 16),upHex (c.toNat % 16)]
def normC (x:UInt8×Bool):List UInt8:=if x.2 then [x.1] else if freeN x.1.toNat then [x.1] else pctC x.1
def normL (s:List UInt8):Option (List UInt8):=(unitsL s).map (·.flatMap normC)
theorem normC_length (x:UInt8×Bool):(normC x).length≤3:=by unfold normC pctC;split <;> (try split) <;> simp
theorem flat_norm_length (u:List (UInt8×Bool)):(u.flatMap normC).length≤3 * u.length:=by
 induction u with
 | nil=>simp
 | cons c u ih=>have:=normC_length c;simp only [List.flatMap_cons,List.length_append,List.length_cons];omega
theorem normL_length {s o:List UInt8} (h:normL s=some o):o.length≤3 * s.length:=by
 unfold normL at h
 cases hu:unitsL s with
 | none=>rw [hu]at h;cases h
 | some u=>
  rw [hu]at h
  simp only [Option.map_some,Option.some.injEq]at h
  subst h
  have h1:=flat_norm_length u
  have h2:=unitsL_length _ s u (Nat.le_refl _) hu
  omega
/-- a path's normal form begins as it does -/
theorem normL_head {s o:List UInt8} {r:List UInt8} (hs:s=47::r) (h:normL s=some o):∃ o',o=47::o':=by
 subst hs
 unfold normL at h
 rw [unitsL_plain (by decide)]at h
 cases hu:unitsL r with
 | none=>rw [hu]at h;cases h
 | some u=>
  rw [hu]at h
  simp only [Option.map_some,Option.some.injEq,List.flatMap_cons]at h
  exact⟨_,h.symm⟩
abbrev dot1:ByteArray:=⟨#[46]⟩
abbrev dot2:ByteArray:=⟨#[46,46]⟩
abbrev emptyB:ByteArray:=⟨#[]⟩
/-- segments with their dots carried out: st are those that stand -/
def dotsF:List ByteArray→List ByteArray→List ByteArray
 | [],st=>st
 | x::xs,st=>
  if x=dot1 then dotsF xs (if xs.isEmpty then st++ [emptyB] else st)
  else if x=dot2 then dotsF xs (if xs.isEmpty then st.dropLast++ [emptyB] else st.dropLast)
  else dotsF xs (st++ [x])
/-- the same from the end: x comes first if 'fst'; skip: so many are to be passed over; out: what stands, from the end -/
def dotsB:List ByteArray→Bool→Nat→List ByteArray→List ByteArray×Nat
 | [],_,skip,out=>(out,skip)
 | x::xs,fst,skip,out=>
  if x=dot1∨x=dot2 then dotsB xs false (if x=dot2 then skip+1 else skip) (if fst then out++ [emptyB] else out)
  else if 0<skip then dotsB xs false (skip -1) out
  else dotsB xs false 0 (out++ [x])
/-- the walk over all but the last -/
def dotsM:List ByteArray→List ByteArray→List ByteArray
 | [],st=>st
 | x::xs,st=>if x=dot1 then dotsM xs st else if x=dot2 then dotsM xs st.dropLast else dotsM xs (st++ [x])
theorem dotsM_snoc (xs:List ByteArray) (x:ByteArray):∀ st,dotsM (xs++ [x]) st=if x=dot1 then dotsM xs st else if x=dot2 then(dotsM xs st).dropLast else dotsM xs st++ [x]:=by
 induction xs with
 | nil=>intro st;simp [dotsM]
 | cons y xs ih=>
  intro st
  rw [List.cons_append,dotsM,dotsM]
  split
  ·exact ih st
  ·split
   ·exact ih _
   ·exact ih _
theorem dotsF_snoc (xs:List ByteArray) (x:ByteArray):∀ st,dotsF (xs++ [x]) st=if x=dot1 then dotsM xs st++ [emptyB] else if x=dot2 then(dotsM xs st).dropLast++ [emptyB] else dotsM xs st++ [x]:=by
 induction xs with
 | nil=>intro st;simp [dotsF,dotsM]
 | cons y xs ih=>
  intro st
  have he:(xs++ [x]).isEmpty=false:=by simp
  rw [List.cons_append,dotsF,dotsM,he]
  simp only [Bool.false_eq_true,if_false]
  split
  ·exact ih st
  ·split
   ·exact ih _
   ·exact ih _
def dropEnd (k:Nat) (l:List ByteArray):List ByteArray:=l.take (l.length -k)
theorem dropEnd_zero (l:List ByteArray):dropEnd 0 l=l:=by simp [dropEnd]
theorem dropEnd_dropLast (k:Nat) (l:List ByteArray):dropEnd k l.dropLast=dropEnd (k+1) l:=by
 unfold dropEnd
 rw [List.dropLast_eq_take,List.take_take,List.length_take]
 congr 1
 omega
theorem dropEnd_snoc (k:Nat) (l:List ByteArray) (x:ByteArray):dropEnd (k+1) (l++ [x])=dropEnd k l:=by
 unfold dropEnd
 rw [List.length_append,List.length_singleton,List.take_append_of_le_length (by omega)]
 congr 1
 omega
/-- what stands, from the end: xs reversed, skip to be passed over -/
theorem dotsB_out (xs:List ByteArray):∀(skip:Nat) (out:List ByteArray),(dotsB xs.reverse false skip out).1.reverse=dropEnd skip (dotsM xs [])++out.reverse:=by
 induction hn:xs.length generalizing xs with
 | zero=>
  intro skip out
  have:xs= []:=List.eq_nil_of_length_eq_zero hn
  subst this
  simp [dotsB,dotsM,dropEnd]
 | succ n ih=>
  intro skip out
  obtain⟨ys,x,rfl⟩:∃ ys x,xs=ys++ [x]:=⟨xs.dropLast,xs.getLast (by intro h;rw [h]at hn;cases hn),(List.dropLast_concat_getLast _).symm⟩
  have hy:ys.length=n:=by simpa using hn
  rw [List.reverse_append,List.reverse_singleton,List.singleton_append,dotsB,dotsM_snoc]
  by_cases h1:x=dot1
  ·have h12:¬ x=dot2:=by rw [h1];decide
   rw [if_pos (.inl h1),if_neg h12,if_pos h1]
   exact ih ys hy skip out
  ·by_cases h2:x=dot2
   ·rw [if_pos (.inr h2),if_pos h2,if_neg h1,if_pos h2]
    rw [dropEnd_dropLast]
    exact ih ys hy (skip+1) out
   ·rw [if_neg (fun h=>h.elim h1 h2),if_neg h1,if_neg h2]
    cases skip with
    | zero=>
     rw [if_neg (by omega),ih ys hy 0 (out++ [x])]
     simp [dropEnd_zero]
    | succ k=>
     rw [if_pos (by omega),dropEnd_snoc]
     exact ih ys hy k out
theorem dots_same {xs:List ByteArray} (h:xs≠[]):(dotsB xs.reverse true 0 []).1.reverse=dotsF xs []:=by
 obtain⟨ys,x,rfl⟩:∃ ys x,xs=ys++ [x]:=⟨xs.dropLast,xs.getLast h,(List.dropLast_concat_getLast _).symm⟩
 rw [List.reverse_append,List.reverse_singleton,List.singleton_append,dotsB,dotsF_snoc]
 by_cases h1:x=dot1
 ·have h12:¬ x=dot2:=by rw [h1];decide
  rw [if_pos (.inl h1),if_neg h12,if_pos rfl,if_pos h1,dotsB_out,dropEnd_zero]
  rfl
 ·by_cases h2:x=dot2
  ·rw [if_pos (.inr h2),if_pos h2,if_pos rfl,if_neg h1,if_pos h2,dotsB_out,←dropEnd_dropLast,dropEnd_zero]
   rfl
  ·rw [if_neg (fun h=>h.elim h1 h2),if_neg (by omega),if_neg h1,if_neg h2,dotsB_out,dropEnd_zero]
   rfl
abbrev PairD:=ByteArray×ByteArray
def lookP (l:List PairD) (n:ByteArray):Option ByteArray:=(l.find? fun p=>decide (p.1=n)).map (·.2)
/-- does a name stand twice among parameters? -/
def twiceP (l:List PairD):Bool:=(List.range l.length).any fun i=>(l[i]?).any fun p=>(lookP (l.take i) p.1).isSome
theorem lookP_at {l:List PairD} {k:Nat} (h:k<l.length) (n:ByteArray):lookP (l.drop k) n=if l[k].1=n then some l[k].2 else lookP (l.drop (k+1)) n:=by
 rw [List.drop_eq_getElem_cons h]
 unfold lookP
 rw [List.find?_cons]
 by_cases e:l[k].1=n <;> simp [e]
section
set_option maxHeartbeats 1000000
theorem val_isLetter (c:Nat) (w:World):Calls Tryz.prog 302 #[.int .u8 (c:Int)] w fun e w'=>e= .returned (.bool (isLetN c))∧w=w':=by
 go_enter Tryz.func302,Tryz.ntmps302
 go_wp2
 all_goals go_ret
 all_goals (refine ⟨ret_bool ?_,rfl⟩)
 all_goals (try simp only [Bool.not_eq_true',beq_eq_false_iff_ne,Bool.not_eq_false',beq_iff_eq,decide_eq_true_eq,decide_eq_false_iff_not]at *)
 all_goals (rw [Bool.eq_iff_iff];simp only [isLetN,isDigN,isHexN,isWrdN,freeN,Bool.or_eq_true,Bool.and_eq_true,decide_eq_true_eq,Bool.false_eq_true,false_iff,true_iff,iff_true,iff_false,false_or,or_false,not_false_eq_true,not_true_eq_false])
 all_goals omega
theorem val_isDigit (c:Nat) (w:World):Calls Tryz.prog 299 #[.int .u8 (c:Int)] w fun e w'=>e= .returned (.bool (isDigN c))∧w=w':=by
 go_enter Tryz.func299,Tryz.ntmps299
 go_wp2
 all_goals go_ret
 all_goals (refine ⟨ret_bool ?_,rfl⟩)
 all_goals (try simp only [Bool.not_eq_true',beq_eq_false_iff_ne,Bool.not_eq_false',beq_iff_eq,decide_eq_true_eq,decide_eq_false_iff_not]at *)
 all_goals (rw [Bool.eq_iff_iff];simp only [isLetN,isDigN,isHexN,isWrdN,freeN,Bool.or_eq_true,Bool.and_eq_true,decide_eq_true_eq,Bool.false_eq_true,false_iff,true_iff,iff_true,iff_false,false_or,or_false,not_false_eq_true,not_true_eq_false])
 all_goals omega
theorem msg_isLetter (c:Nat) (w:World):Calls Tryz.prog 212 #[.int .u8 (c:Int)] w fun e w'=>e= .returned (.bool (isLetN c))∧w=w':=by
 go_enter Tryz.func212,Tryz.ntmps212
 go_wp2
 all_goals go_ret
 all_goals (refine ⟨ret_bool ?_,rfl⟩)
 all_goals (try simp only [Bool.not_eq_true',beq_eq_false_iff_ne,Bool.not_eq_false',beq_iff_eq,decide_eq_true_eq,decide_eq_false_iff_not]at *)
 all_goals (rw [Bool.eq_iff_iff];simp only [isLetN,isDigN,isHexN,isWrdN,freeN,Bool.or_eq_true,Bool.and_eq_true,decide_eq_true_eq,Bool.false_eq_true,false_iff,true_iff,iff_true,iff_false,false_or,or_false,not_false_eq_true,not_true_eq_false])
 all_goals omega
theorem msg_isDigit (c:Nat) (w:World):Calls Tryz.prog 213 #[.int .u8 (c:Int)] w fun e w'=>e= .returned (.bool (isDigN c))∧w=w':=by
 go_enter Tryz.func213,Tryz.ntmps213
 go_wp2
 all_goals go_ret
 all_goals (refine ⟨ret_bool ?_,rfl⟩)
 all_goals (try simp only [Bool.not_eq_true',beq_eq_false_iff_ne,Bool.not_eq_false',beq_iff_eq,decide_eq_true_eq,decide_eq_false_iff_not]at *)
 all_goals (rw [Bool.eq_iff_iff];simp only [isLetN,isDigN,isHexN,isWrdN,freeN,Bool.or_eq_true,Bool.and_eq_true,decide_eq_true_eq,Bool.false_eq_true,false_iff,true_iff,iff_true,iff_false,false_or,or_false,not_false_eq_true,not_true_eq_false])
 all_goals omega
theorem msg_isHex (c:Nat) (w:World):Calls Tryz.prog 210 #[.int .u8 (c:Int)] w fun e w'=>e= .returned (.bool (isHexN c))∧w=w':=by
 have hd:=msg_isDigit c w
 go_enter Tryz.func210,Tryz.ntmps210
 cases h:isDigN c
 ·rw [h]at hd
  go_wp2_with (first |(refine hd.mono ?_;clear hd;rintro e w' ⟨rfl,rfl⟩))
  all_goals go_ret
  all_goals (refine ⟨ret_bool ?_,rfl⟩)
  all_goals (try simp only [Bool.not_eq_true',beq_eq_false_iff_ne,Bool.not_eq_false',beq_iff_eq,decide_eq_true_eq,decide_eq_false_iff_not]at *)
  all_goals (rw [Bool.eq_iff_iff];simp only [isHexN,h,Bool.or_eq_true,Bool.and_eq_true,decide_eq_true_eq,Bool.false_eq_true,false_iff,true_iff,iff_true,iff_false,false_or,or_false,not_false_eq_true,not_true_eq_false])
  all_goals omega
 ·rw [h]at hd
  go_wp2_with (first |(refine hd.mono ?_;clear hd;rintro e w' ⟨rfl,rfl⟩))
  go_ret
  exact⟨ret_bool (by simp [isHexN,h]),rfl⟩
theorem val_isWordByte (c:Nat) (w:World):Calls Tryz.prog 298 #[.int .u8 (c:Int)] w fun e w'=>e= .returned (.bool (isWrdN c))∧w=w':=by
 have hl:=val_isLetter c w
 have hd:=val_isDigit c w
 go_enter Tryz.func298,Tryz.ntmps298
 cases h:isLetN c
 ·cases h2:isDigN c
  ·rw [h]at hl
   rw [h2]at hd
   go_wp2_with (first |(refine hl.mono ?_;clear hl;rintro e w' ⟨rfl,rfl⟩) |(refine hd.mono ?_;clear hd;rintro e w' ⟨rfl,rfl⟩))
   all_goals go_ret
   all_goals (refine ⟨ret_bool ?_,rfl⟩)
   all_goals (try simp only [Bool.not_eq_true',beq_eq_false_iff_ne,Bool.not_eq_false',beq_iff_eq,decide_eq_true_eq,decide_eq_false_iff_not]at *)
   all_goals (rw [Bool.eq_iff_iff];simp only [isWrdN,h,h2,Bool.or_eq_true,Bool.and_eq_true,decide_eq_true_eq,beq_iff_eq,Bool.false_eq_true,false_iff,true_iff,iff_true,iff_false,false_or,or_false,not_false_eq_true,not_true_eq_false])
   all_goals omega
  ·rw [h]at hl
   rw [h2]at hd
   go_wp2_with (first |(refine hl.mono ?_;clear hl;rintro e w' ⟨rfl,rfl⟩) |(refine hd.mono ?_;clear hd;rintro e w' ⟨rfl,rfl⟩))
   go_ret
   exact⟨ret_bool (by simp [isWrdN,h,h2]),rfl⟩
 ·rw [h]at hl
  go_wp2_with (first |(refine hl.mono ?_;clear hl;rintro e w' ⟨rfl,rfl⟩))
  go_ret
  exact⟨ret_bool (by simp [isWrdN,h]),rfl⟩
end
/-- a byte that may stand at place j of a row that begins at i -/
def rowAt (s:List UInt8) (i j:Nat):Bool:=isWrdN (s.getD j 0).toNat&& !(decide (j=i)&&isDigN (s.getD j 0).toNat)
set_option maxHeartbeats 2000000 in
theorem val_plain (s:ByteArray) (i:Nat) (w:World) (hs:s.size≤maxLen) (hi:i≤s.size):
  Calls Tryz.prog 292 #[.string s,.int .i64 (i:Int)] w fun e w'=>(∃ k:Nat,e= .returned (.int .i64 (k:Int))∧i≤k∧k≤s.size∧(∀ j,i≤j→j<k→rowAt s.data.toList i j=true)∧(k<s.size→rowAt s.data.toList i k=false))∧w=w':=by
 unfold maxLen at hs
 go_enter Tryz.func292,Tryz.ntmps292
 go_wp2_with fail
 go_loop [5] (fun v=>∃ k:Nat,i≤k∧k≤s.size∧v= .int .i64 k∧Hid (∀ j,i≤j→j<k→rowAt s.data.toList i j=true)) (fun v=>s.size -(intOf v).toNat)
 case atStart=>exact⟨i,Nat.le_refl _,hi,rfl,hId (fun j h1 h2=>by omega)⟩
 case round=>
  obtain⟨k,hik,hk,rfl,HR⟩:=hrel
  by_cases hlt:k<s.size
  ·have hg:s.data.toList.getD k 0=s[k]:=by
    rw [List.getD_eq_getElem?_getD,List.getElem?_eq_getElem (show k<s.data.toList.length from hlt)]
    rfl
   have HG:Hid (rowAt s.data.toList i k=(isWrdN s[k].toNat&& !(decide (k=i)&&isDigN s[k].toNat))):=hId (by unfold rowAt;rw [hg])
   clear hg
   have h1:=val_isWordByte s[k].toNat w
   have h2:=val_isDigit s[k].toNat w
   cases hw:isWrdN s[k].toNat <;> rw [hw]at h1 HG
   ·go_wp2_with (first |(refine h1.mono ?_;clear h1;rintro e w' ⟨rfl,rfl⟩))
    go_ret
    exact⟨⟨k,rfl,hik,hk,HR.out,fun _=>by rw [HG.out];rfl⟩,rfl⟩
   ·by_cases hki:k=i
    ·have hki':((k:Int) == (i:Int))=true:=by simp;omega
     have hkd:decide (k=i)=true:=decide_eq_true hki
     rw [hkd]at HG
     clear hki hkd
     cases hd:isDigN s[k].toNat <;> rw [hd]at h2 HG
     ·go_wp2_with (first |(refine h1.mono ?_;clear h1;rintro e w' ⟨rfl,rfl⟩) |(refine h2.mono ?_;clear h2;rintro e w' ⟨rfl,rfl⟩))
      refine⟨⟨k+1,by omega,by omega,by go_num,hId (fun j hj1 hj2=>?_)⟩,by simp [intOf];omega⟩
      by_cases e:j=k
      ·subst e;rw [HG.out];rfl
      ·exact HR.out j hj1 (by omega)
     ·go_wp2_with (first |(refine h1.mono ?_;clear h1;rintro e w' ⟨rfl,rfl⟩) |(refine h2.mono ?_;clear h2;rintro e w' ⟨rfl,rfl⟩))
      go_ret
      exact⟨⟨k,rfl,hik,hk,HR.out,fun _=>by rw [HG.out];rfl⟩,rfl⟩
    ·have hki':((k:Int) == (i:Int))=false:=by simp;omega
     have hkd:decide (k=i)=false:=decide_eq_false hki
     rw [hkd]at HG
     clear hki hkd h2
     go_wp2_with (first |(refine h1.mono ?_;clear h1;rintro e w' ⟨rfl,rfl⟩))
     refine⟨⟨k+1,by omega,by omega,by go_num,hId (fun j hj1 hj2=>?_)⟩,by simp [intOf];omega⟩
     by_cases e:j=k
     ·subst e;rw [HG.out];rfl
     ·exact HR.out j hj1 (by omega)
  ·obtain rfl:k=s.size:=by omega
   go_wp2_with fail
   go_ret
   exact⟨⟨_,rfl,hik,Nat.le_refl _,HR.out,fun h=>absurd h (by omega)⟩,rfl⟩
theorem plainRow_of {s:List UInt8} {k:Nat} (hne:s≠[]) (hk:k≤s.length) (h1:∀ j,0≤j→j<k→rowAt s 0 j=true) (h2:k<s.length→rowAt s 0 k=false):decide ((k:Int)=(s.length:Int))=plainRow s:=by
 have hget:∀ j (h:j<s.length),s.getD j 0=s[j]:=fun j h=>by simp [List.getD_eq_getElem?_getD,List.getElem?_eq_getElem h]
 have hpos:0<s.length:=by
  cases s with
  | nil=>exact absurd rfl hne
  | cons a l=>simp
 have hhead:(s.head?.map fun c=>isDigN c.toNat).getD false=isDigN (s.getD 0 0).toNat:=by
  cases s with
  | nil=>exact absurd rfl hne
  | cons a l=>rfl
 unfold plainRow
 rw [hhead]
 by_cases hkl:k=s.length
 ·rw [decide_eq_true (by omega)]
  have ha:s.all (fun c=>isWrdN c.toNat)=true:=by
   rw [List.all_eq_true]
   intro c hc
   obtain⟨j,hj,rfl⟩:=List.getElem_of_mem hc
   have:=h1 j (Nat.zero_le _) (by omega)
   unfold rowAt at this
   rw [hget j hj]at this
   simp only [Bool.and_eq_true]at this
   exact this.1
  have hb:=h1 0 (Nat.le_refl _) (by omega)
  unfold rowAt at hb
  simp only [decide_true,Bool.true_and,Bool.and_eq_true]at hb
  rw [ha,decide_eq_true hne,hb.2];rfl
 ·rw [decide_eq_false (by omega)]
  have hf:=h2 (by omega)
  unfold rowAt at hf
  cases hw:isWrdN (s.getD k 0).toNat
  ·have:s.all (fun c=>isWrdN c.toNat)=false:=all_stop (k:=k) (by omega) (by rw [← hget k (by omega)];exact hw)
   rw [this];simp
  ·rw [hw]at hf
   simp only [Bool.true_and,Bool.not_eq_false',Bool.and_eq_true,decide_eq_true_eq]at hf
   obtain⟨rfl,hf⟩:=hf
   rw [hf];simp
set_option maxHeartbeats 1000000 in
theorem val_isPlain (s:ByteArray) (w:World) (hs:s.size≤maxLen):
  Calls Tryz.prog 273 #[.string s] w fun e w'=>e= .returned (.bool (plainRow s.data.toList))∧w=w':=by
 have hp:=val_plain s 0 w hs (Nat.zero_le _)
 by_cases h0:s.data.toList= []
 ·have h1:(s.toList == [])=true:=by rw [ByteArray.toList_eq,h0];rfl
  go_enter Tryz.func273,Tryz.ntmps273
  go_wp2_with fail
  go_ret
  exact⟨ret_bool (by rw [h0];rfl),rfl⟩
 ·have h1:(s.toList == [])=false:=by rw [ByteArray.toList_eq];simpa using h0
  have HQ:Hid (∀ k:Nat,k≤s.size→(∀ j,0≤j→j<k→rowAt s.data.toList 0 j=true)→(k<s.size→rowAt s.data.toList 0 k=false)→decide ((k:Int)=(s.size:Int))=plainRow s.data.toList):=hId (fun k a b c=>plainRow_of h0 a b c)
  clear h0
  go_enter Tryz.func273,Tryz.ntmps273
  go_wp2_with (first |(refine hp.mono ?_;clear hp;rintro e w' ⟨⟨k,rfl,hk1,hk2,hk3,hk4⟩,rfl⟩;have hq:=HQ.out k hk2 hk3 hk4;clear hk3 hk4 HQ))
  all_goals go_ret
  all_goals (refine ⟨ret_bool ?_,rfl⟩)
  all_goals (rw [← hq];first | rfl |(rw [Bool.eq_iff_iff];simp) | simp)
set_option maxHeartbeats 1000000 in
theorem val_isRow (s:ByteArray) (w:World) (hs:s.size≤maxLen):
  Calls Tryz.prog 238 #[.string s] w fun e w'=>e= .returned (.bool (plainRow s.data.toList&&decide (s.size≤40)))∧w=w':=by
 have hp:=val_isPlain s w hs
 cases h:plainRow s.data.toList <;> rw [h]at hp
 ·go_enter Tryz.func238,Tryz.ntmps238
  go_wp2_with (first |(refine hp.mono ?_;clear hp;rintro e w' ⟨rfl,rfl⟩))
  go_ret
  exact⟨rfl,rfl⟩
 ·go_enter Tryz.func238,Tryz.ntmps238
  go_wp2_with (first |(refine hp.mono ?_;clear hp;rintro e w' ⟨rfl,rfl⟩))
  all_goals go_ret
  all_goals (refine ⟨ret_bool ?_,rfl⟩)
  all_goals (rw [Bool.eq_iff_iff];simp;try omega)
/-- is every byte from lo to hi? -/
def inR (lo hi:Nat) (l:List UInt8):Bool:=l.all fun c=>decide (lo≤c.toNat)&&decide (c.toNat≤hi)
set_option maxHeartbeats 1000000 in
theorem msg_isRange (s:ByteArray) (lo hi:Nat) (w:World) (hs:s.size≤maxLen):
  Calls Tryz.prog 159 #[.string s,.int .u8 (lo:Int),.int .u8 (hi:Int)] w fun e w'=>e= .returned (.bool (inR lo hi s.data.toList))∧w=w':=by
 unfold maxLen at hs
 go_enter Tryz.func159,Tryz.ntmps159
 go_wp2_with fail
 go_loop [10] (fun v=>∃ k:Nat,k≤s.size∧v= .int .i64 k∧Hid (inR lo hi (s.data.toList.take k)=true)) (fun v=>s.size -(intOf v).toNat)
 case atStart=>exact⟨0,Nat.zero_le _,rfl,hId rfl⟩
 case round=>
  obtain⟨k,hk,rfl,HR⟩:=hrel
  by_cases hlt:k<s.size
  ·have hkl:k<s.data.toList.length:=hlt
   have hg:s.data.toList[k]=s[k]:=rfl
   have HT:Hid (inR lo hi (s.data.toList.take (k+1))=(decide (lo≤s[k].toNat)&&decide (s[k].toNat≤hi))):=hId (by have:=HR.out;unfold inR at *;rw [all_take hkl,this,hg];rfl)
   have HF:Hid ((decide (lo≤s[k].toNat)&&decide (s[k].toNat≤hi))=false→inR lo hi s.data.toList=false):=hId (fun h=>all_stop hkl (by rw [hg];exact h))
   clear hg
   by_cases hb:lo≤s[k].toNat∧s[k].toNat≤hi
   ·obtain⟨b1,b2⟩:=hb
    have HB:Hid ((decide (lo≤s[k].toNat)&&decide (s[k].toNat≤hi))=true):=hId (by simp [b1,b2])
    go_wp2_with fail
    exact⟨⟨k+1,by omega,by go_num,hId (HT.out.trans HB.out)⟩,by simp [intOf];omega⟩
   ·have HB:Hid ((decide (lo≤s[k].toNat)&&decide (s[k].toNat≤hi))=false):=hId (by simp;omega)
    have hb':¬ ((lo:Int)≤(s[k].toNat:Int))∨((lo:Int)≤(s[k].toNat:Int))∧¬ ((s[k].toNat:Int)≤(hi:Int)):=by omega
    clear hb
    rcases hb' with b1 |⟨b1,b2⟩
    all_goals go_wp2_with fail
    all_goals go_ret
    all_goals exact⟨ret_bool (HF.out HB.out).symm,rfl⟩
  ·obtain rfl:k=s.size:=by omega
   have hfull:s.data.toList.take s.size=s.data.toList:=List.take_length
   rw [hfull]at HR
   clear hfull
   go_wp2_with fail
   go_ret
   exact⟨ret_bool HR.out.symm,rfl⟩
set_option maxHeartbeats 1000000 in
theorem msg_isUnit (s:ByteArray) (i:Nat) (w:World) (hs:s.size≤1000000) (hi:i<s.size):
  Calls Tryz.prog 157 #[.string s,.int .i64 (i:Int)] w fun e w'=>e= .returned (.bool (unitAt s.data.toList i))∧w=w':=by
 by_cases h2:i+2<s.size
 ·have g1:s.data.toList.getD (i+1) 0=s[i+1]:=by
   rw [List.getD_eq_getElem?_getD,List.getElem?_eq_getElem (show i+1<s.data.toList.length by show _<s.size;omega)]
   rfl
  have g2:s.data.toList.getD (i+2) 0=s[i+2]:=by
   rw [List.getD_eq_getElem?_getD,List.getElem?_eq_getElem (show i+2<s.data.toList.length by show _<s.size;omega)]
   rfl
  have HU:Hid (unitAt s.data.toList i=(isHexN s[i+1].toNat&&isHexN s[i+2].toNat)):=hId (by
   unfold unitAt
   rw [g1,g2,decide_eq_true (show i+2<s.data.toList.length from h2)]
   rfl)
  clear g1 g2
  have c1:=msg_isHex s[i+1].toNat w
  have c2:=msg_isHex s[i+2].toNat w
  have n1:((i:Int)+1).toNat=i+1:=by omega
  have n2:((i:Int)+2).toNat=i+2:=by omega
  have hI:(i:Int)+2<(s.size:Int):=by omega
  cases hx1:isHexN s[i+1].toNat <;> rw [hx1]at c1 HU
  ·go_enter Tryz.func157,Tryz.ntmps157
   go_wp2_with (first |(refine c1.mono ?_;rintro e w' ⟨rfl,rfl⟩))
   all_goals go_ret
   all_goals exact⟨ret_bool (by rw [HU.out];rfl),rfl⟩
  ·generalize isHexN s[i+2].toNat=r at c2 HU
   go_enter Tryz.func157,Tryz.ntmps157
   go_wp2_with (first |(refine c1.mono ?_;clear c1;rintro e w' ⟨rfl,rfl⟩) |(refine c2.mono ?_;clear c2;rintro e w' ⟨rfl,rfl⟩))
   all_goals go_ret
   all_goals exact⟨ret_bool (by rw [HU.out];rfl),rfl⟩
 ·have HU:Hid (unitAt s.data.toList i=false):=hId (by
   unfold unitAt
   rw [decide_eq_false (show ¬ i+2<s.data.toList.length from h2)]
   rfl)
  have hI:(s.size:Int)≤(i:Int)+2:=by omega
  clear h2
  go_enter Tryz.func157,Tryz.ntmps157
  go_wp2_with fail
  all_goals go_ret
  all_goals exact⟨ret_bool HU.out.symm,rfl⟩
def encL {α:Type} (sz:Nat) (enc:α→Nat→Value) (x:α):List Value:=(List.range sz).map (enc x)
theorem encL_length {α:Type} (sz:Nat) (enc:α→Nat→Value) (x:α):(encL sz enc x).length=sz:=by simp [encL]
theorem flat_length {α:Type} (sz:Nat) (enc:α→Nat→Value) (xs:List α):(xs.flatMap (encL sz enc)).length=xs.length * sz:=by
 induction xs with
 | nil=>simp
 | cons x xs ih=>simp [ih,encL_length,Nat.succ_mul];omega
theorem flat_get {α:Type} (sz:Nat) (enc:α→Nat→Value) (xs:List α) (i:Nat) (hi:i<xs.length) (j:Nat) (hj:j<sz):(xs.flatMap (encL sz enc))[i * sz+j]? =some (enc xs[i] j):=by
 induction xs generalizing i with
 | nil=>simp at hi
 | cons x xs ih=>
  rw [List.flatMap_cons]
  cases i with
  | zero=>
   rw [List.getElem?_append_left (by rw [encL_length];omega)]
   simp [encL,hj]
  | succ i=>
   rw [List.getElem?_append_right (by rw [encL_length,Nat.succ_mul];omega),encL_length,show(i+1) * sz+j -sz=i * sz+j by rw [Nat.succ_mul];omega,ih i (by simpa using hi)]
   simp
/-- what the program's table says of an element type -/
def EInfo (P:Program) (e:TypeId) (sz bytes:Nat):Prop:=∃ i z,P.info? e=some i∧i.zero=some z∧i.size=sz∧i.bytes=bytes∧z.cells.size=sz∧0<sz
theorem EInfo.of {P:Program} {e:TypeId} {z:Value} {sz bytes:Nat} (h:(P.info? e).map (fun i=>(i.zero,i.size,i.bytes))=some (some z,sz,bytes)) (hz:z.cells.size=sz) (h0:0<sz):EInfo P e sz bytes:=by
 obtain⟨i,hi,h1,h2,h3⟩:=info_parts h
 exact⟨i,z,hi,h1,h2,h3,hz,h0⟩
/-- the slice '.slice A n c' is nil, or the head of a row from block B on that nobody else writes; it reads as xs -/
def Own {α:Type} (w:World) (B:Nat) (t:TypeId) (sz:Nat) (enc:α→Nat→Value) (A:Option Addr) (n c:Nat) (xs:List α):Prop:=
 xs.length=n∧w.ownsRow B t sz (.slice A n c) n (xs.flatMap (encL sz enc))
def blkOf (A:Option Addr):Option Nat:=A.map (·.block)
theorem ownBlock_eq (A:Option Addr) (n c:Nat):(Value.slice A n c).ownBlock=blkOf A:=by cases A <;> rfl
section
variable {α:Type} {w w':World} {B:Nat} {t:TypeId} {sz:Nat} {enc:α→Nat→Value} {A:Option Addr} {n c:Nat} {xs:List α}
theorem Own.nil:Own w B t sz enc none 0 0 ([]:List α):=⟨rfl,by simpa using World.ownsRow_nil w B t sz⟩
theorem Own.form (h:Own w B t sz enc A n c xs) (h0:0<n):∃ g,A=some ⟨g,0,none⟩∧B≤g∧TB w g t∧n≤c∧c≤maxLen:=by
 rcases h.2.2 with⟨_,hn⟩ |⟨g,cap,cur,hv,hB,hh,hc1,hc2,_⟩
 ·omega
 ·injection hv with h1 h2 h3
  subst h3
  exact⟨g,h1,hB,⟨cur,_,hh⟩,hc1,hc2⟩
theorem Own.blk (h:Own w B t sz enc A n c xs):A=none∧n=0∧c=0∨∃ g,A=some ⟨g,0,none⟩∧B≤g∧TB w g t:=by
 rcases h.2.2 with⟨hv,hn⟩ |⟨g,cap,cur,hv,hB,hh,hc1,hc2,_⟩
 ·injection hv with h1 h2 h3;exact .inl ⟨h1,h2,h3⟩
 ·injection hv with h1 h2 h3
  exact .inr ⟨g,h1,hB,⟨cur,_,hh⟩⟩
theorem Own.sl (h:Own w B t sz enc A n c xs):Sl w t sz enc A n xs:=by
 refine⟨h.1,fun h0=>?_⟩
 obtain⟨g,rfl,hB,hg,hc⟩:=h.form h0
 refine⟨g,0,rfl,hg,fun i hi j hj=>?_⟩
 have h1:=h.1
 have hlt:i * sz+j<n * sz:=by
  have:(i+1) * sz≤n * sz:=Nat.mul_le_mul_right sz (by omega)
  rw [Nat.succ_mul]at this;omega
 have:=h.2.cellAt (i * sz+j) hlt
 rw [flat_get sz enc xs i hi j hj]at this
 rw [← this,Nat.zero_add]
theorem Own.mod {S:Nat→Prop} (h:Own w B t sz enc A n c xs) (hm:Mod S w w') (hs:∀ g,blkOf A=some g→¬ S g):Own w' B t sz enc A n c xs:=by
 refine⟨h.1,h.2.1,?_⟩
 rcases h.2.2 with hv |⟨g,cap,cur,hv,hB,hh,hr⟩
 ·exact .inl hv
 ·refine .inr ⟨g,cap,cur,hv,hB,?_,hr⟩
  injection hv with h1
  subst h1
  exact(hm.block g (heap_lt hh) (hs g rfl)).trans hh
theorem Own.new (h:Own w B t sz enc A n c xs) (hm:New w w'):Own w' B t sz enc A n c xs:=h.mod hm (fun _ _ x=>x)
theorem Own.drewN (h:Own w B t sz enc A n c xs) (k:Nat):Own (w.drewN k) B t sz enc A n c xs:=h.new ((Mod.refl _ _).drewN k)
theorem Own.alloc (h:Own w B t sz enc A n c xs) (o:Obj):Own (w.alloc o) B t sz enc A n c xs:=h.new ((Mod.refl _ _).alloc o)
theorem Own.less {B':Nat} (h:Own w B t sz enc A n c xs) (hB:B'≤B):Own w B' t sz enc A n c xs:=by
 refine⟨h.1,h.2.1,?_⟩
 rcases h.2.2 with hv |⟨g,cap,cur,hv,hB,hh,hr⟩
 ·exact .inl hv
 ·exact .inr ⟨g,cap,cur,hv,by omega,hh,hr⟩
/-- out of a block that is known whole -/
theorem Own.of_blk {g m:Nat} (hb:Blk w g t (xs.flatMap (encL sz enc)).toArray) (hB:B≤g) (hn:xs.length=m) (hm:m≤1000000):Own w B t sz enc (some ⟨g,0,none⟩) m m xs:=by
 subst hn
 refine⟨rfl,flat_length sz enc xs,.inr ⟨g,_,_,rfl,hB,hb,Nat.le_refl _,by unfold maxLen;omega,by rw [List.size_toArray,flat_length],?_⟩⟩
 rw [← flat_length sz enc xs,List.take_length]
/-- append of one element that lies in a block of its own -/
theorem wpList_push {P:Program} {ops:Array Oper} {rest:List Oper} {o:Oper} {a:Act} {Q:Exit→Act→World→Prop} (hgd:o.guard=none) (s x:Operand) (ts:TypeId)
  (ho:o.op= .call {callee:=.builtin .append,args:=#[s,x],argTypes:=#[ts,ts]}) (bytes:Nat) (ht:P.underlying ts=some (.slice t)) (hi:EInfo P t sz bytes)
  (hs:a.eval s= .slice A n c) (hown:Own w B t sz enc A n c xs) (y:α) (g0:Nat) (hx:a.eval x= .slice (some ⟨g0,0,none⟩) 1 1) (hb:Blk w g0 t (encL sz enc y).toArray)
  (h1:∀ j,j<sz→(enc y j).oneCell'=true) (hn:n<1000000) (hbytes:bytes≤1000000) (hB:B≤w.heap.size)
  (h:∀ g cap w',Own w' B t sz enc (some ⟨g,0,none⟩) (n+1) cap (xs++ [y])→Mod (fun k=>blkOf A=some k) w w'→(blkOf A=some g∨g=w.heap.size)→g<w'.heap.size→
   wpList P ops Q rest (a.put o.dst (.slice (some ⟨g,0,none⟩) (n+1) cap)) w'):wpList P ops Q (o::rest) a w:=by
 obtain⟨i,z,hi0,hz,hsz,hby,hzs,h0⟩:=hi
 refine wpList_append_lies w hgd s x ts ho B t i z sz bytes ht hi0 hz hsz hby hzs h0 _ n _ hs hown.2 ⟨g0,0,none⟩ 1 1 (encL sz enc y) hx (by rw [encL_length];omega) ?_ ?_ (by omega) (by unfold maxLen;omega) ?_ hB _ rfl ?_
 ·have:=World.news_of_block hb
  simpa using this
 ·intro u hu
  simp only [encL,List.mem_map,List.mem_range]at hu
  obtain⟨j,hj,rfl⟩:=hu
  exact h1 j hj
 ·have:(n+1) * bytes≤1000000 * 1000000:=Nat.mul_le_mul (by omega) hbytes
  omega
 ·intro g cap w' hown' hg hat hlt
  rw [ownBlock_eq]at hg hat
  refine h g cap w' ⟨by simp [hown.1],by simpa using hown'⟩ ?_ hat hlt
  exact(Mod.refl (fun k=>blkOf A=some k) w).grown hg (fun k e=>.inl e)
end
theorem Sl.flat {α:Type} {w:World} {t:TypeId} {sz:Nat} {enc:α→Nat→Value} {g o n:Nat} {xs:List α} (h:Sl w t sz enc (some ⟨g,o,none⟩) n xs) (h0:0<n) (hz:0<sz):
  ∀ j u,(xs.flatMap (encL sz enc))[j]? =some u→w.cell? ((⟨g,o,none⟩:Addr).add j)=some u:=by
 intro j u hu
 obtain⟨g',o',hA,hg,hc⟩:=h.2 h0
 injection hA with hA
 injection hA with hA1 hA2
 subst hA1 hA2
 have hj:j<xs.length * sz:=by
  rcases Nat.lt_or_ge j (xs.length * sz)with h | h
  ·exact h
  ·rw [List.getElem?_eq_none (by rw [flat_length];exact h)]at hu;cases hu
 have hi:j / sz<xs.length:=Nat.div_lt_of_lt_mul (by rw [Nat.mul_comm];exact hj)
 have hr:=Nat.mod_lt j hz
 have e:j / sz * sz+j % sz=j:=Nat.div_add_mod' j sz
 have h1:=flat_get sz enc xs (j / sz) hi (j % sz) hr
 rw [e,hu]at h1
 have h2:=hc (j / sz) hi (j % sz) hr
 rw [Nat.add_assoc,e]at h2
 have hadd:(⟨g,o,none⟩:Addr).add j=⟨g,o+j,none⟩:=by unfold Addr.add;split <;> simp_all
 rw [hadd,h2,h1]
/-- append of a slice's elements -/
theorem wpList_pushAll {α:Type} {w:World} {B:Nat} {t:TypeId} {sz:Nat} {enc:α→Nat→Value} {A:Option Addr} {n c:Nat} {xs:List α} {P:Program} {ops:Array Oper} {rest:List Oper} {o:Oper} {a:Act} {Q:Exit→Act→World→Prop} (hgd:o.guard=none) (s x:Operand) (ts:TypeId)
  (ho:o.op= .call {callee:=.builtin .append,args:=#[s,x],argTypes:=#[ts,ts]}) (bytes:Nat) (ht:P.underlying ts=some (.slice t)) (hi:EInfo P t sz bytes)
  (hs:a.eval s= .slice A n c) (hown:Own w B t sz enc A n c xs) (ys:List α) (g0 o0 m cm:Nat) (hx:a.eval x= .slice (some ⟨g0,o0,none⟩) m cm) (hy:Sl w t sz enc (some ⟨g0,o0,none⟩) m ys) (hm:0<m)
  (h1:∀ y∈ys,∀ j,j<sz→(enc y j).oneCell'=true) (hn:n+m<1000000) (hbytes:bytes≤1000000) (hB:B≤w.heap.size)
  (h:∀ g cap w',Own w' B t sz enc (some ⟨g,0,none⟩) (n+m) cap (xs++ys)→Mod (fun k=>blkOf A=some k) w w'→(blkOf A=some g∨g=w.heap.size)→g<w'.heap.size→
   wpList P ops Q rest (a.put o.dst (.slice (some ⟨g,0,none⟩) (n+m) cap)) w'):wpList P ops Q (o::rest) a w:=by
 obtain⟨i,z,hi0,hz,hsz,hby,hzs,h0⟩:=hi
 have hml:=hy.1
 refine wpList_append_lies w hgd s x ts ho B t i z sz bytes ht hi0 hz hsz hby hzs h0 _ n _ hs hown.2 ⟨g0,o0,none⟩ m cm (ys.flatMap (encL sz enc)) hx (by rw [flat_length,hml]) (hy.flat hm h0) ?_ hm (by unfold maxLen;omega) ?_ hB _ rfl ?_
 ·intro u hu
  simp only [List.mem_flatMap,encL,List.mem_map,List.mem_range]at hu
  obtain⟨y,hy',j,hj,rfl⟩:=hu
  exact h1 y hy' j hj
 ·have:(n+m) * bytes≤1000000 * 1000000:=Nat.mul_le_mul (by omega) hbytes
  omega
 ·intro g cap w' hown' hg hat hlt
  rw [ownBlock_eq]at hg hat
  refine h g cap w' ⟨by simp [hown.1,hml],by rw [List.flatMap_append];exact hown'⟩ ?_ hat hlt
  exact(Mod.refl (fun k=>blkOf A=some k) w).grown hg (fun k e=>.inl e)
end Go.Proofs.YtnlloaimplgjnaaGreatDoor
