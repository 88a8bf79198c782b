/- Trimming, and sets of bytes: the plain law. No conditions. -/
import Derived.Test.YtnlloaimplgjnaaGreatDoorTplLaw
import Derived.Lib.SlTrimSet
import Derived.Lib.Bytealg
namespace Go.Proofs.YtnlloaimplgjnaaGreatDoor
open Go.RowKit
set_option linter.unusedVariables false
set_option linter.unusedSimpArgs false
theorem dropW_nil (p:UInt8→Bool):∀ l:List UInt8,l.dropWhile p= []↔∀ c∈l,p c=true
 | []=>by simp
 | a::l=>by
  rw [List.dropWhile_cons]
  cases h:p a
  ·simp only [Bool.false_eq_true,if_false]
   exact⟨fun e=>absurd e (by simp),fun e=>by have:=e a (by simp);rw [h]at this;cases this⟩
  ·simp only [if_true]
   rw [dropW_nil p l]
   simp [h]
theorem dropW_rest (p:UInt8→Bool):∀(l:List UInt8) (c:UInt8),c∈l→p c=true∨c∈l.dropWhile p
 | [],c,h=>by simp at h
 | a::l,c,h=>by
  rw [List.dropWhile_cons]
  cases hp:p a
  ·simp only [Bool.false_eq_true,if_false];exact .inr h
  ·simp only [if_true]
   rcases List.mem_cons.1 h with rfl | h
   ·exact .inl hp
   ·exact dropW_rest p l c h
theorem dropW_sub (p:UInt8→Bool):∀(l:List UInt8) (c:UInt8),c∈l.dropWhile p→c∈l
 | [],c,h=>by simp at h
 | a::l,c,h=>by
  rw [List.dropWhile_cons]at h
  cases hp:p a <;> rw [hp]at h
  ·simpa using h
  ·exact List.mem_cons_of_mem _ (dropW_sub p l c (by simpa using h))
theorem trimS_nil (l cs:List UInt8):Lib.trimS l cs= []↔∀ c∈l,cs.contains c=true:=by
 unfold Lib.trimS Lib.trimLeftS Lib.trimRightS
 rw [dropW_nil]
 constructor
 ·intro h c hc
  rcases dropW_rest (cs.contains ·) l.reverse c (List.mem_reverse.2 hc)with h1 | h1
  ·exact h1
  ·exact h c (List.mem_reverse.2 h1)
 ·intro h c hc
  exact h c (List.mem_reverse.1 (dropW_sub _ _ _ (List.mem_reverse.1 hc)))
theorem byteOf {p:UInt8→Prop} (h:∀ n,n<256→p (UInt8.ofNat n)) (c:UInt8):p c:=by
 have:=h c.toNat (by have:=c.toNat_lt;simpa using this)
 simpa using this
/-- the letters and _ -/
def letsB:ByteArray:=⟨#[97,98,99,100,101,102,103,104,105,106,107,108,109,110,111,112,113,114,115,116,117,118,119,120,121,122,65,66,67,68,69,70,71,72,73,74,75,76,77,78,79,80,81,82,83,84,85,86,87,88,89,90,95]⟩
/-- letters, _ and digits -/
def wrdsB:ByteArray:=⟨#[97,98,99,100,101,102,103,104,105,106,107,108,109,110,111,112,113,114,115,116,117,118,119,120,121,122,65,66,67,68,69,70,71,72,73,74,75,76,77,78,79,80,81,82,83,84,85,86,87,88,89,90,95,48,49,50,51,52,53,54,55,56,57]⟩
/-- the hexadecimal digits -/
def hexsB:ByteArray:=⟨#[48,49,50,51,52,53,54,55,56,57,97,98,99,100,101,102,65,66,67,68,69,70]⟩
theorem wrds_at (c:UInt8):wrdsB.data.toList.contains c=isWrdN c.toNat:=by
 revert c
 apply byteOf
 decide +kernel
theorem lets_at (c:UInt8):decide (0≤Lib.indexByte letsB.data.toList c)=(isLetN c.toNat||decide (c.toNat=95)):=by
 revert c
 apply byteOf
 decide +kernel
theorem hexs_at (c:UInt8):hexsB.data.toList.contains c=isHexN c.toNat:=by
 revert c
 apply byteOf
 decide +kernel
theorem trim_word (l:List UInt8):Lib.trimS l wrdsB.data.toList= []↔l.all (fun c=>isWrdN c.toNat)=true:=by
 rw [trimS_nil,List.all_eq_true]
 exact⟨fun h c hc=>by rw [← wrds_at];exact h c hc,fun h c hc=>by rw [wrds_at];exact h c hc⟩
theorem trim_hex (l:List UInt8):Lib.trimS l hexsB.data.toList= []↔l.all (fun c=>isHexN c.toNat)=true:=by
 rw [trimS_nil,List.all_eq_true]
 exact⟨fun h c hc=>by rw [← hexs_at];exact h c hc,fun h c hc=>by rw [hexs_at];exact h c hc⟩
/-- a word's head is a letter or _, where the rest is letters, digits and _ -/
theorem plainRow_eq {c:UInt8} {r:List UInt8}:plainRow (c::r)=((c::r).all (fun c=>isWrdN c.toNat)&&(isLetN c.toNat||decide (c.toNat=95))):=by
 unfold plainRow
 simp only [ne_eq,reduceCtorEq,not_false_eq_true,decide_true,Bool.true_and,List.head?_cons,Option.map_some,Option.getD_some]
 cases h:(c::r).all (fun c=>isWrdN c.toNat)
 ·rfl
 ·simp only [Bool.true_and]
  simp only [List.all_cons,Bool.and_eq_true]at h
  have h1:=h.1
  simp only [isWrdN,isLetN,isDigN,Bool.or_eq_true,Bool.and_eq_true,decide_eq_true_eq]at h1
  rw [Bool.eq_iff_iff]
  simp only [isLetN,isDigN,Bool.or_eq_true,Bool.and_eq_true,decide_eq_true_eq,Bool.not_eq_true',Bool.and_eq_false_iff,decide_eq_false_iff_not]
  omega
theorem all_take {p:UInt8→Bool} {s:List UInt8} {k:Nat} (h:k<s.length):(s.take (k+1)).all p=((s.take k).all p&&p s[k]):=by
 rw [List.take_succ_eq_append_getElem h,List.all_append]
 simp
theorem all_stop {p:UInt8→Bool} {s:List UInt8} {k:Nat} (h:k<s.length) (hp:p s[k]=false):s.all p=false:=by
 rw [List.all_eq_false]
 exact⟨s[k],List.getElem_mem h,by rw [hp];decide⟩
theorem any_take {p:UInt8→Bool} {s:List UInt8} {k:Nat} (h:k<s.length):(s.take (k+1)).any p=((s.take k).any p||p s[k]):=by
 rw [List.take_succ_eq_append_getElem h,List.any_append]
 simp
theorem any_stop {p:UInt8→Bool} {s:List UInt8} {k:Nat} (h:k<s.length) (hp:p s[k]=true):s.any p=true:=by
 rw [List.any_eq_true]
 exact⟨s[k],List.getElem_mem h,hp⟩
end Go.Proofs.YtnlloaimplgjnaaGreatDoor
