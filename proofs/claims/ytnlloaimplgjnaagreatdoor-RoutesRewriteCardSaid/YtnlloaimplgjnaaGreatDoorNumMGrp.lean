/- Several texts in one. (1) Numbers as they are written, of at most so many digits: both readings are one function of the string. Conditions: at most 17 digits; the string is short enough to be counted; strconv's table. (2) The names of hosts and their ports: the plain law. No program in sight. No conditions. (3) Queries of requests, the plain law: what reading, sorting and writing answer. No program in sight. No conditions. -/
import Derived.Test.YtnlloaimplgjnaaGreatDoorTpl2Grp
import Derived.Test.YtnlloaimplgjnaaGreatDoorTpl3Grp
import Derived.BigGuardPart
import Derived.BigQuiet
import Derived.Lib.CutLaws
import Derived.Lib.IndexBytes
namespace Go.Proofs.YtnlloaimplgjnaaGreatDoor
open Go.RowKit
set_option linter.unusedVariables false
set_option linter.unusedSimpArgs false
def isDig (c:UInt8):Bool:=decide (48≤c.toNat)&&decide (c.toNat≤57)
/-- without the sign -/
def numD (s:ByteArray):List UInt8:=Lib.trimPrefix s.data.toList [45]
def numOk (m:Nat) (s:ByteArray):Bool:=!(numD s).isEmpty&&decide ((numD s).length≤m)&&(numD s).all isDig&&(decide ((numD s).head?≠some 48)||decide (s.data.toList= [48]))
def numV (s:ByteArray):Int:=(Lib.atoi s.data.toList).getD 0
theorem digitVal_some {c:UInt8} (h:isDig c=true):Lib.digitVal c=some (c.toNat -48):=by
 unfold isDig at h
 unfold Lib.digitVal
 simp at h
 rw [if_pos h]
theorem decFrom_digs {l:List UInt8} (h:l.all isDig=true) (acc:Nat):∃ m,Lib.decFrom acc l=some m:=by
 induction l generalizing acc with
 | nil=>exact⟨acc,rfl⟩
 | cons b r ih=>
  simp only [List.all_cons,Bool.and_eq_true]at h
  simp only [Lib.decFrom,digitVal_some h.1]
  exact ih h.2 _
theorem decFrom_snoc {l:List UInt8} {acc m:Nat} (h:Lib.decFrom acc l=some m) {b:UInt8} (hb:isDig b=true):Lib.decFrom acc (l++ [b])=some (m * 10+(b.toNat -48)):=by
 induction l generalizing acc with
 | nil=>
  simp only [Lib.decFrom,Option.some.injEq]at h
  subst h
  simp [Lib.decFrom,digitVal_some hb]
 | cons a r ih=>
  simp only [Lib.decFrom,List.cons_append]at h ⊢
  cases e:Lib.digitVal a with
  | none=>rw [e]at h;cases h
  | some d=>rw [e]at h;simp only at h ⊢;exact ih h
theorem decFrom_ge {l:List UInt8} {acc m:Nat} (h:Lib.decFrom acc l=some m):acc≤m:=by
 induction l generalizing acc with
 | nil=>simp only [Lib.decFrom,Option.some.injEq]at h;omega
 | cons a r ih=>
  simp only [Lib.decFrom]at h
  cases e:Lib.digitVal a with
  | none=>rw [e]at h;cases h
  | some d=>rw [e]at h;simp only at h;have:=ih h;omega
theorem decDigits_head {u:Nat} {b:UInt8} {r:List UInt8} (h:Lib.decDigits u=b::r) (hb:b=48):u=0:=by
 induction u using Nat.strongRecOn generalizing r with
 | _ u ih=>
  by_cases hu:u<10
  ·rw [Lib.decDigits,dif_pos hu]at h
   injection h with h1 h2
   rw [hb]at h1
   have h3:(48+u) % 256=48:=by
    have:=congrArg UInt8.toNat h1
    simpa using this
   omega
  ·rw [Lib.decDigits,dif_neg hu]at h
   cases e:Lib.decDigits (u / 10)with
   | nil=>
    have h1:=Lib.decDigits_length (u / 10)
    have h2:=Lib.nDigits_pos (u / 10)
    rw [e]at h1
    simp only [List.length_nil]at h1
    omega
   | cons c t=>
    rw [e]at h
    injection h with h1 h2
    subst h1
    have:=ih (u / 10) (by omega) e
    omega
theorem decDigits_back {l:List UInt8} (h:l.all isDig=true) (hh:l.head?≠some 48) {m:Nat} (hm:Lib.decFrom 0 l=some m):l= []∨Lib.decDigits m=l:=by
 suffices key:∀(n:Nat) (l:List UInt8),l.length=n→l.all isDig=true→l.head?≠some 48→∀ m,Lib.decFrom 0 l=some m→l= []∨Lib.decDigits m=l from key _ l rfl h hh m hm
 clear hm hh h m l
 intro n
 induction n with
 | zero=>intro l hl _ _ _ _;exact .inl (List.eq_nil_of_length_eq_zero hl)
 | succ n ih=>
  intro l0 hl h hh m hm
  right
  rcases List.eq_nil_or_concat l0 with rfl |⟨l,b,hlb⟩
  ·cases hl
  rw [List.concat_eq_append]at hlb
  subst hlb
  have hd:l.all isDig=true∧isDig b=true:=by simpa [List.all_append]using h
  have hbb:=hd.2
  unfold isDig at hbb
  simp at hbb
  obtain⟨m',hm'⟩:=decFrom_digs hd.1 0
  have hs:=decFrom_snoc hm' hd.2
  rw [hs]at hm
  injection hm with hm
  subst hm
  have hof:UInt8.ofNat (48+(b.toNat -48))=b:=by
   apply UInt8.toNat_inj.1
   simp
   omega
  cases l with
  | nil=>
   simp only [Lib.decFrom,Option.some.injEq]at hm'
   subst hm'
   rw [Lib.decDigits,dif_pos (by omega)]
   simp only [Nat.zero_mul,Nat.zero_add,List.nil_append]
   rw [hof]
  | cons a t=>
   have ha:(a::t).head?≠some 48:=by simpa using hh
   rcases ih (a::t) (by simpa using hl) hd.1 ha m' hm' with h1 | h1
   ·cases h1
   ·have hge:1≤m':=by
     simp only [Lib.decFrom]at hm'
     have hda:isDig a=true:=by have:=hd.1;simp at this;exact this.1
     rw [digitVal_some hda]at hm'
     have:=decFrom_ge hm'
     unfold isDig at hda
     simp at hda ha
     have hne:a.toNat≠48:=fun e=>ha (UInt8.toNat_inj.1 (by simpa using e))
     omega
    have h10:(m' * 10+(b.toNat -48)) / 10=m':=by omega
    have h11:(m' * 10+(b.toNat -48)) % 10=b.toNat -48:=by omega
    rw [Lib.decDigits,dif_neg (by omega),h10,h11,h1,hof]
/-- digits are written back just where no nought leads -/
theorem decDigits_iff {l:List UInt8} (h:l.all isDig=true) (hne:l≠[]) {m:Nat} (hm:Lib.decFrom 0 l=some m):Lib.decDigits m=l↔(l.head?≠some 48∨l= [48]):=by
 constructor
 ·intro he
  by_cases hh:l.head? =some 48
  ·right
   cases l with
   | nil=>cases hh
   | cons a t=>
    injection hh with hh
    have hz:=decDigits_head he hh
    subst hz
    rw [← he]
    simp [Lib.decDigits]
  ·exact .inl hh
 ·rintro(hh | rfl)
  ·exact(decDigits_back h hh hm).resolve_left hne
  ·simp only [Lib.decFrom,Lib.digitVal]at hm
   simp at hm
   subst hm
   simp [Lib.decDigits]
theorem numD_cases (s:ByteArray):(∃ r,s.data.toList=45::r∧numD s=r)∨(s.data.toList.head?≠some 45∧numD s=s.data.toList):=by
 unfold numD Lib.trimPrefix Lib.hasPrefix
 cases h:s.data.toList with
 | nil=>right;simp
 | cons a t=>
  by_cases ha:a=45
  ·subst ha;left;exact⟨t,rfl,by simp⟩
  ·right
   refine⟨by simpa using ha,?_⟩
   rw [if_neg]
   simp [List.isPrefixOf]
   exact fun e=>absurd e.symm ha
theorem num_atoi {s:ByteArray} (hne:numD s≠[]) (hd:(numD s).all isDig=true):∃ m,Lib.decFrom 0 (numD s)=some m∧Lib.atoi s.data.toList=some (if s.data.toList.head? =some 45 then -(m:Int) else m):=by
 obtain⟨m,hm⟩:=decFrom_digs hd 0
 refine⟨m,hm,?_⟩
 rcases numD_cases s with⟨r,h1,h2⟩ |⟨h1,h2⟩
 ·rw [h1]
  rw [h2]at hm hne
  have he:r.isEmpty=false:=by cases r with | nil=>exact absurd rfl hne | cons _ _=>rfl
  simp [Lib.atoi,Lib.decNat,he,hm]
 ·rw [h2]at hm hne hd
  rw [if_neg h1]
  cases e:s.data.toList with
  | nil=>exact absurd e hne
  | cons a t=>
   rw [e]at hm hd h1
   have ha:isDig a=true:=by simp at hd;exact hd.1
   unfold isDig at ha
   simp at ha
   have h45:(a == 45)=false:=by simpa using h1
   have h43:(a == 43)=false:=by
    simp only [beq_eq_false_iff_ne]
    rintro rfl
    exact absurd ha.1 (by decide)
   simp [Lib.atoi,h45,h43,Lib.decNat,hm]
/-- what the reference asks: that it is written back -/
theorem num_itoa {s:ByteArray} (hne:numD s≠[]) (hd:(numD s).all isDig=true):decide (Lib.itoa (numV s)=s.data.toList)=(decide ((numD s).head?≠some 48)||decide (s.data.toList= [48])):=by
 obtain⟨m,hm,ha⟩:=num_atoi hne hd
 have hiff:=decDigits_iff hd hne hm
 unfold numV
 rw [ha]
 simp only [Option.getD_some]
 rw [Bool.eq_iff_iff]
 simp only [decide_eq_true_eq,Bool.or_eq_true]
 rcases numD_cases s with⟨r,h1,h2⟩ |⟨h1,h2⟩
 ·rw [h2]at hiff hne hm hd ⊢
  rw [h1]
  simp only [List.head?_cons,if_true]
  by_cases hz:m=0
  ·subst hz
   have h0:Lib.decDigits 0= [48]:=by simp [Lib.decDigits]
   have hno:¬ (Lib.itoa (-((0:Nat):Int))=45::r):=by
    simp [Lib.itoa,h0]
   constructor
   ·intro h;exact absurd h hno
   ·rintro(h | h)
    ·have:=hiff.2 (.inl h)
     rw [h0]at this
     rw [← this]at h
     exact absurd rfl h
    ·injection h with h _
     exact absurd h (by decide)
  ·have hi:Lib.itoa (-((m:Nat):Int))=45::Lib.decDigits m:=by
    unfold Lib.itoa
    rw [if_pos (by omega)]
    simp
   rw [hi]
   constructor
   ·intro h
    injection h with _ h
    rcases hiff.1 h with h | h
    ·exact .inl h
    ·subst h
     simp [Lib.decFrom,Lib.digitVal]at hm
     omega
   ·rintro(h | h)
    ·rw [hiff.2 (.inl h)]
    ·injection h with h _
     exact absurd h (by decide)
 ·rw [h2]at hiff ⊢
  rw [if_neg h1]
  have hi:Lib.itoa ((m:Nat):Int)=Lib.decDigits m:=by
   unfold Lib.itoa
   rw [if_neg (by omega)]
   simp
  rw [hi]
  exact hiff
def RNum (m:Nat) (s:ByteArray) (w:World) (e:Ending) (w':World):Prop:=∃ v,e= .returned (.tuple #[.int .i64 v,.bool (numOk m s)])∧(numOk m s=true→v=numV s)∧New w w'
theorem numOk_false {m:Nat} {s:ByteArray} {w w':World} {v:Int} (h:numOk m s=false) (hm:New w w'):RNum m s w (.returned (.tuple #[.int .i64 v,.bool false])) w':=⟨v,by rw [h],(fun h2=>by rw [h]at h2;cases h2),hm⟩
set_option maxHeartbeats 2000000 in
theorem kit_number (m:Nat) (hm17:m≤17) (s:ByteArray) (w:World) (hs:s.size≤1000000):
  Calls Tryz.prog 275 #[.string s,.int .i64 (m:Int)] w (RNum m s w):=by
 have htp:=Tryz.strings_TrimPrefix s ⟨#[45]⟩ w
 generalize hD:(⟨(Lib.trimPrefix s.data.toList (⟨#[45]⟩:ByteArray).data.toList).toArray⟩:ByteArray)=D at *
 have hDl:D.data.toList=numD s:=by subst hD;rfl
 have hDt:D.toList=numD s:=by rw [ByteArray.toList_eq];exact hDl
 have hst:s.toList=s.data.toList:=ByteArray.toList_eq _
 have hsz:D.size=(numD s).length:=by rw [← hDl];rfl
 have HDL:=hId hDl
 have HDT:=hId hDt
 have HST:=hId hst
 have HSZ:=hId hsz
 have hDs:D.size≤s.size:=by
  have h1:(numD s).length≤s.data.toList.length:=by
   rcases numD_cases s with⟨r,h1,h2⟩ |⟨h1,h2⟩
   ·rw [h1,h2];simp
   ·rw [h2];exact Nat.le_refl _
  have h2:s.data.toList.length=s.size:=rfl
  omega
 clear hDl hDt hst hsz hD
 by_cases e0:numD s= []
 ·have hd0:(D.toList == [])=true:=by rw [HDT.out,e0];rfl
  have HF:Hid (numOk m s=false):=hId (by unfold numOk;rw [e0];rfl)
  clear e0
  go_enter Tryz.func275,Tryz.ntmps275
  go_wp2_with fail
  refine htp.mono ?_
  clear htp
  rintro e w1 ⟨rfl,rfl⟩
  go_wp2_with fail
  go_ret2
  exact numOk_false HF.out (Mod.refl _ _)
 ·have hd0:(D.toList == [])=false:=by rw [HDT.out];simpa using e0
  by_cases e1:m<D.size
  ·have hd1:(m:Int)<(D.size:Int):=by omega
   have HF:Hid (numOk m s=false):=hId (by
    have:decide ((numD s).length≤m)=false:=by simp;have:=HSZ.out;omega
    unfold numOk;rw [this];simp)
   clear e0
   go_enter Tryz.func275,Tryz.ntmps275
   go_wp2_with fail
   refine htp.mono ?_
   clear htp
   rintro e w1 ⟨rfl,rfl⟩
   go_wp2_with fail
   go_ret2
   exact numOk_false HF.out (Mod.refl _ _)
  ·have hpos:0<D.size:=by
    have h1:(numD s).length≠0:=fun h=>e0 (List.eq_nil_of_length_eq_zero h)
    have:=HSZ.out
    omega
   have hd1:¬ (m:Int)<(D.size:Int):=by omega
   have hhd:(numD s).head? =some D[0]:=by
    rw [← HDL.out,List.head?_eq_getElem?]
    simp [ByteArray.getElem_eq_getElem_data,hpos]
   have HHD:=hId hhd
   have HE0:=hId e0
   clear hhd e0
   by_cases e2:D[0]=48∧s.data.toList≠[48]
   ·have hd2:((D[0].toNat:Int) == 48)=true:=by rw [e2.1];rfl
    have hd3:(s.toList == [48])=false:=by rw [HST.out];simpa using e2.2
    have HF:Hid (numOk m s=false):=hId (by
     unfold numOk
     rw [HHD.out,e2.1]
     have:decide (s.data.toList= [48])=false:=by simpa using e2.2
     rw [this]
     simp)
    clear e2
    go_enter Tryz.func275,Tryz.ntmps275
    go_wp2_with fail
    refine htp.mono ?_
    clear htp
    rintro e w1 ⟨rfl,rfl⟩
    go_wp2_with fail
    go_ret2
    exact numOk_false HF.out (Mod.refl _ _)
   ·have HLZ:Hid ((decide ((numD s).head?≠some 48)||decide (s.data.toList= [48]))=true):=hId (by
     by_cases h48:D[0]=48
     ·have:s.data.toList= [48]:=by
       by_cases h:s.data.toList= [48]
       ·exact h
       ·exact absurd ⟨h48,h⟩ e2
      simp [this]
     ·rw [HHD.out]
      simp [h48])
    have hcond:((D[0].toNat:Int) == 48)=false∨((D[0].toNat:Int) == 48)=true∧(s.toList == [48])=true:=by
     by_cases h48:D[0]=48
     ·right
      refine⟨by rw [h48];rfl,?_⟩
      rw [HST.out]
      by_cases h:s.data.toList= [48]
      ·simpa using h
      ·exact absurd ⟨h48,h⟩ e2
     ·left
      simp only [beq_eq_false_iff_ne,ne_eq]
      intro h
      exact h48 (UInt8.toNat_inj.1 (by have:(48:UInt8).toNat=48:=rfl;omega))
    clear e2
    go_enter Tryz.func275,Tryz.ntmps275
    go_wp2_with fail
    refine htp.mono ?_
    clear htp
    rintro e w1 ⟨rfl,rfl⟩
    go_upto_region 2 with(fail)
    have HC:=hId hcond
    clear hcond
    go_cut [28] (fun s28 wx=>s28= .bool false∧wx=w1)
    case first=>
     have hd9:decide ((m:Int)<(D.size:Int))=false:=by simpa using hd1
     rcases HC.out with hd2 |⟨hd2,hd3⟩
     ·go_wp2_with fail
      go_meet
      exact⟨rfl,rfl⟩
     ·go_wp2_with fail
      go_meet
      exact⟨rfl,rfl⟩
    case rest=>
     obtain⟨rfl,rfl⟩:=hcut
     go_wp2_with fail
     go_loopw [7] (fun i wr=>∃ k:Nat,k≤D.size∧i= .int .i64 k∧wr=wc∧Hid (((numD s).take k).all isDig=true)) (fun i _=>D.size -(intOf i).toNat)
     case atStart=>exact⟨0,Nat.zero_le _,rfl,rfl,hId rfl⟩
     case round=>
      obtain⟨k,hk,rfl,rfl,HA⟩:=hrel
      by_cases hlt:k<D.size
      ·have hkn:k<(numD s).length:=by have:=HSZ.out;omega
       have hDk:(numD s)[k]=D[k]:=by
        have h1:(numD s)[k]? =some D[k]:=by
         rw [← HDL.out]
         simp [ByteArray.getElem_eq_getElem_data,hlt]
        rw [List.getElem?_eq_getElem hkn]at h1
        injection h1
       have HTK:Hid (((numD s).take (k+1)).all isDig=(((numD s).take k).all isDig&&isDig D[k])):=hId (by
        rw [List.take_succ_eq_append_getElem hkn,List.all_append,hDk]
        simp)
       clear hDk
       by_cases h1:D[k].toNat<48
       ·have hd2:decide ((D[k].toNat:Int)<48)=true:=by simp;omega
        have HF:Hid (numOk m s=false):=hId (by
         have hz:isDig D[k]=false:=by unfold isDig;simp;omega
         have hall:(numD s).all isDig=false:=by
          rw [List.all_eq_false]
          have h3:=HTK.out
          rw [hz,Bool.and_false,List.all_eq_false]at h3
          obtain⟨x,hx,hx2⟩:=h3
          exact⟨x,List.mem_of_mem_take hx,hx2⟩
         unfold numOk;rw [hall];simp)
        go_wp2_with fail
        go_ret2
        exact numOk_false HF.out (Mod.refl _ _)
       ·have hd2:decide ((D[k].toNat:Int)<48)=false:=by simp;omega
        by_cases h2:57<D[k].toNat
        ·have hd3:decide ((57:Int)<(D[k].toNat:Int))=true:=by simp;omega
         have HF:Hid (numOk m s=false):=hId (by
          have hz:isDig D[k]=false:=by unfold isDig;simp;omega
          have hall:(numD s).all isDig=false:=by
           rw [List.all_eq_false]
           have h3:=HTK.out
           rw [hz,Bool.and_false,List.all_eq_false]at h3
           obtain⟨x,hx,hx2⟩:=h3
           exact⟨x,List.mem_of_mem_take hx,hx2⟩
          unfold numOk;rw [hall];simp)
         go_wp2_with fail
         go_ret2
         exact numOk_false HF.out (Mod.refl _ _)
        ·have hd3:decide ((57:Int)<(D[k].toNat:Int))=false:=by simp;omega
         have hz:isDig D[k]=true:=by unfold isDig;simp;omega
         have HA2:Hid (((numD s).take (k+1)).all isDig=true):=hId (by rw [HTK.out,HA.out,hz];rfl)
         clear hz
         go_wp2_with fail
         exact⟨⟨k+1,by omega,by go_num,trivial,HA2⟩,by simp [intOf];omega⟩
      ·obtain rfl:k=D.size:=by omega
       have hall:(numD s).all isDig=true:=by
        have:=HA.out
        rwa [List.take_of_length_le (by have:=HSZ.out;omega)]at this
       obtain⟨mv,hm,hat⟩:=num_atoi HE0.out hall
       have hv:Lib.atoi s.data.toList=some (numV s):=by unfold numV;rw [hat];rfl
       have hs18:s.size≤18:=by
        have h2:s.data.toList.length=s.size:=rfl
        have h3:=HSZ.out
        rcases numD_cases s with⟨r,q1,q2⟩ |⟨q1,q2⟩
        ·rw [q1]at h2;rw [q2]at h3;simp at h2;omega
        ·rw [q2]at h3;omega
       have HF:Hid (numOk m s=true):=hId (by
        unfold numOk
        rw [hall,HLZ.out]
        have h1:(numD s).isEmpty=false:=by
         cases e:numD s with
         | nil=>exact absurd e HE0.out
         | cons _ _=>rfl
        have h2:decide ((numD s).length≤m)=true:=by simp;have:=HSZ.out;omega
        rw [h1,h2];rfl)
       have hato:=Tryz.strconv_Atoi s (numV s) hs18 hv wr
       clear hall hm hat hv
       go_wp2_with fail
       refine hato.mono ?_
       clear hato
       rintro e w5 ⟨rfl,t,rfl⟩
       go_wp2_with fail
       go_quiet (fail)
       go_wp2_with fail
       go_ret2
       exact⟨numV s,by rw [HF.out];rfl,fun _=>rfl,(bytes_new _ _ _).drewN _⟩
def digChars:ByteArray:=⟨#[48,49,50,51,52,53,54,55,56,57]⟩
theorem digChars_at (c:UInt8):decide (0≤Lib.indexByte digChars.data.toList c)=isDig c:=by
 revert c
 apply of_byte
 decide +kernel
theorem only_digs (D:ByteArray) (k:Nat) (hk:k≤D.size):onlyTo D digChars k=(D.data.toList.take k).all isDig:=by
 induction k with
 | zero=>rfl
 | succ k ih=>
  have hkn:k<D.data.toList.length:=by show k<D.size;omega
  rw [onlyTo_succ,ih (by omega),digChars_at,List.take_succ_eq_append_getElem hkn,List.all_append]
  have h1:D[k]?.getD 0=D.data.toList[k]:=by
   simp [ByteArray.getElem_eq_getElem_data,show k<D.size by omega]
  rw [h1]
  simp
set_option maxHeartbeats 2000000 in
theorem ref_number (m:Nat) (hm17:m≤17) (s:ByteArray) (w:World) (hs:s.size≤1000000) (hT:Pow10 w):
  Calls Tryz.prog 96 #[.string s,.int .i64 (m:Int)] w (RNum m s w):=by
 have htp:=Tryz.strings_TrimPrefix s ⟨#[45]⟩ w
 generalize hD:(⟨(Lib.trimPrefix s.data.toList (⟨#[45]⟩:ByteArray).data.toList).toArray⟩:ByteArray)=D at *
 have hDl:D.data.toList=numD s:=by subst hD;rfl
 have hDt:D.toList=numD s:=by rw [ByteArray.toList_eq];exact hDl
 have hst:s.toList=s.data.toList:=ByteArray.toList_eq _
 have hsz:D.size=(numD s).length:=by rw [← hDl];rfl
 have hDs:D.size≤s.size:=by
  have h1:(numD s).length≤s.data.toList.length:=by
   rcases numD_cases s with⟨r,h1,h2⟩ |⟨h1,h2⟩
   ·rw [h1,h2];simp
   ·rw [h2];exact Nat.le_refl _
  have h2:s.data.toList.length=s.size:=rfl
  omega
 have honly:=ref_only D digChars w (by unfold maxLen;omega)
 rw [only_digs D D.size (Nat.le_refl _),List.take_of_length_le (show D.data.toList.length≤D.size from Nat.le_refl _),hDl]at honly
 have HDL:=hId hDl
 have HDT:=hId hDt
 have HST:=hId hst
 have HSZ:=hId hsz
 have HT:=hId hT
 unfold digChars at honly
 clear hDl hDt hst hsz hD hT
 by_cases e0:numD s= []
 ·have hd0:(D.toList == [])=true:=by rw [HDT.out,e0];rfl
  have HF:Hid (numOk m s=false):=hId (by unfold numOk;rw [e0];rfl)
  clear e0 honly
  go_enter Tryz.func96,Tryz.ntmps96
  go_wp2_with fail
  refine htp.mono ?_
  clear htp
  rintro e w1 ⟨rfl,rfl⟩
  go_wp2_with fail
  go_ret2
  exact numOk_false HF.out (Mod.refl _ _)
 ·have hd0:(D.toList == [])=false:=by rw [HDT.out];simpa using e0
  by_cases e1:m<D.size
  ·have hd1:decide ((m:Int)<(D.size:Int))=true:=by simp;omega
   have HF:Hid (numOk m s=false):=hId (by
    have:decide ((numD s).length≤m)=false:=by simp;have:=HSZ.out;omega
    unfold numOk;rw [this];simp)
   clear e0 honly
   go_enter Tryz.func96,Tryz.ntmps96
   go_wp2_with fail
   refine htp.mono ?_
   clear htp
   rintro e w1 ⟨rfl,rfl⟩
   go_wp2_with fail
   go_ret2
   exact numOk_false HF.out (Mod.refl _ _)
  ·have hd1:decide ((m:Int)<(D.size:Int))=false:=by simp;omega
   cases hall:(numD s).all isDig with
   | false=>
    have HF:Hid (numOk m s=false):=hId (by unfold numOk;rw [hall];simp)
    rw [hall]at honly
    clear e0 hall
    go_enter Tryz.func96,Tryz.ntmps96
    go_wp2_with fail
    refine htp.mono ?_
    clear htp
    rintro e w1 ⟨rfl,rfl⟩
    go_wp2_with fail
    refine honly.mono ?_
    clear honly
    rintro e w2 ⟨rfl,rfl⟩
    go_wp2_with fail
    go_ret2
    exact numOk_false HF.out (Mod.refl _ _)
   | true=>
    obtain⟨mv,hm,hat⟩:=num_atoi e0 hall
    have hv:Lib.atoi s.data.toList=some (numV s):=by unfold numV;rw [hat];rfl
    have hs18:s.size≤18:=by
     have h2:s.data.toList.length=s.size:=rfl
     have h3:=HSZ.out
     rcases numD_cases s with⟨r,q1,q2⟩ |⟨q1,q2⟩
     ·rw [q1]at h2;rw [q2]at h3;simp at h2;omega
     ·rw [q2]at h3;omega
    have hm18:mv<1000000000000000000:=Lib.decFrom_lt18 hm (by have:=HSZ.out;omega)
    have hi64:I64 (numV s):=by
     unfold numV
     rw [hat]
     simp only [Option.getD_some]
     split <;> constructor <;> omega
    have hok:((itoaB (numV s)).toList == s.toList)=numOk m s:=by
     have h1:=num_itoa e0 hall
     have h2:(itoaB (numV s)).toList=Lib.itoa (numV s):=by rw [ByteArray.toList_eq];simp [itoaB]
     have h4:(numD s).isEmpty=false:=by
      cases e:numD s with
      | nil=>exact absurd e e0
      | cons _ _=>rfl
     have h5:decide ((numD s).length≤m)=true:=by simp;have:=HSZ.out;omega
     unfold numOk
     rw [h2,HST.out,hall,h4,h5,←h1]
     rw [Bool.eq_iff_iff];simp
    have hito:=fun W (hW:New w W)=>itoa_any (numV s) hi64 W (HT.out.new hW)
    have hato:=Tryz.strconv_Atoi s (numV s) hs18 hv w
    have HOK:=hId hok
    rw [hall]at honly
    clear e0 hall hm hat hv hok hi64
    go_enter Tryz.func96,Tryz.ntmps96
    go_wp2_with fail
    refine htp.mono ?_
    clear htp
    rintro e w1 ⟨rfl,rfl⟩
    go_wp2_with fail
    refine honly.mono ?_
    clear honly
    rintro e w2 ⟨rfl,rfl⟩
    go_wp2_with fail
    refine hato.mono ?_
    clear hato
    rintro e w5 ⟨rfl,t,rfl⟩
    have hm5:=bytes_new w1 5 t
    generalize Lib.bytesWorld w1 5 t=w5 at *
    go_wp2_with fail
    refine(hito w5 hm5).mono ?_
    clear hito
    rintro e w6 ⟨rfl,hm6⟩
    go_wp2_with fail
    go_ret2
    exact⟨numV s,by rw [HOK.out];rfl,fun _=>rfl,hm5.trans hm6⟩
/-- what stands ahead of the first c, what behind it, and whether there is one -/
def cutL (c:UInt8) (l:List UInt8):List UInt8×List UInt8×Bool:=(l.takeWhile (· != c),(l.dropWhile (· != c)).drop 1,l.contains c)
theorem index_cons (c b:UInt8) (l:List UInt8):Lib.index (b::l) [c]=if b=c then 0 else if Lib.index l [c]= -1 then -1 else Lib.index l [c]+1:=by
 rw [Lib.index_one,Lib.index_one,Lib.indexByte]
 by_cases h:b=c
 ·simp [h]
 ·rw [if_neg h,if_neg (by simpa using h)]
  by_cases h2:Lib.indexByte l c= -1
  ·simp [h2]
  ·simp [h2]
theorem cut_cons (c b:UInt8) (l:List UInt8) (h:b≠c):Lib.cut (b::l) [c]=(b::(Lib.cut l [c]).1,(Lib.cut l [c]).2.1,(Lib.cut l [c]).2.2):=by
 have hg:=Lib.index_ge l [c]
 unfold Lib.cut
 rw [index_cons,if_neg h]
 by_cases h2:Lib.index l [c]= -1
 ·rw [if_pos h2,h2];rfl
 ·rw [if_neg h2]
  obtain⟨k,hk⟩:∃ k:Nat,Lib.index l [c]=k:=⟨(Lib.index l [c]).toNat,by omega⟩
  rw [hk,if_pos (by omega),if_pos (by omega),show((k:Int)+1).toNat=k+1 by omega,show((k:Int)).toNat=k by omega]
  simp [Nat.add_right_comm]
theorem cut_eq (c:UInt8):∀ l:List UInt8,Lib.cut l [c]=cutL c l
 | []=>by unfold Lib.cut cutL;rw [Lib.index_one];rfl
 | b::l=>by
  by_cases h:b=c
  ·subst h
   unfold Lib.cut cutL
   rw [index_cons,if_pos rfl]
   simp [List.takeWhile_cons,List.dropWhile_cons]
  ·rw [cut_cons c b l h,cut_eq c l]
   have hb:(b != c)=true:=by simpa using h
   have hc:(c == b)=false:=by simpa using fun e=>h e.symm
   unfold cutL
   rw [List.takeWhile_cons,hb,List.dropWhile_cons,hb,List.contains_cons,hc]
   rfl
theorem cutL_join (c:UInt8):∀ l:List UInt8,l=(cutL c l).1++(if (cutL c l).2.2 then c::(cutL c l).2.1 else [])
 | []=>rfl
 | b::l=>by
  have ih:=cutL_join c l
  unfold cutL at ih ⊢
  by_cases h:b=c
  ·subst h
   simp [List.takeWhile_cons,List.dropWhile_cons]
  ·have hb:(b != c)=true:=by simpa using h
   have hc:(c == b)=false:=by simpa using fun e=>h e.symm
   rw [List.takeWhile_cons,hb,List.dropWhile_cons,hb,List.contains_cons,hc]
   simp only [if_true,Bool.false_or,List.cons_append]
   rw [← ih]
theorem cutL_none {c:UInt8} {l:List UInt8} (h:(cutL c l).2.2=false):(cutL c l).1=l∧(cutL c l).2.1= []:=by
 have h1:=cutL_join c l
 rw [h]at h1
 simp only [Bool.false_eq_true,if_false,List.append_nil]at h1
 refine⟨h1.symm,?_⟩
 unfold cutL at h ⊢
 simp only at h ⊢
 have:l.dropWhile (· != c)= []:=by
  rw [dropW_nil]
  intro b hb
  simp only [bne_iff_ne,ne_eq]
  rintro rfl
  rw [List.contains_iff_mem.2 hb]at h
  cases h
 rw [this]
 rfl
theorem lower_colon (b:UInt8):(Lib.lowerB b != 58)=(b != 58):=by
 revert b
 apply byteOf
 decide +kernel
theorem cutL_lower (l:List UInt8):cutL 58 (Lib.toLowerA l)=(Lib.toLowerA (cutL 58 l).1,Lib.toLowerA (cutL 58 l).2.1,(cutL 58 l).2.2):=by
 induction l with
 | nil=>rfl
 | cons b l ih=>
  have hq:=lower_colon b
  unfold cutL Lib.toLowerA at ih ⊢
  simp only [Prod.mk.injEq]at ih
  obtain⟨i1,i2,i3⟩:=ih
  cases hb:(b != 58)with
  | false=>
   rw [hb]at hq
   have e1:b=58:=by simpa using hb
   subst e1
   rfl
  | true=>
   rw [hb]at hq
   have hc1:((58:UInt8) == Lib.lowerB b)=false:=by
    have:Lib.lowerB b≠58:=by simpa using hq
    simpa using fun e=>this e.symm
   have hc2:((58:UInt8) == b)=false:=by
    have:b≠58:=by simpa using hb
    simpa using fun e=>this e.symm
   simp only [List.map_cons,List.takeWhile_cons,List.dropWhile_cons,List.contains_cons,hq,hb,if_true,hc1,hc2,Bool.false_or,Prod.mk.injEq]
   exact⟨by rw [i1],i2,i3⟩
theorem lower_dig:∀ c:UInt8,isDig c=true→Lib.lowerB c=c:=by
 apply byteOf
 decide +kernel
theorem lower_digs {l:List UInt8} (h:l.all isDig=true):Lib.toLowerA l=l:=by
 unfold Lib.toLowerA
 rw [show l.map Lib.lowerB=l.map id from List.map_congr_left (fun c hc=>lower_dig c (List.all_eq_true.1 h c hc)),List.map_id]
theorem lower_len (l:List UInt8):(Lib.toLowerA l).length=l.length:=by unfold Lib.toLowerA;rw [List.length_map]
abbrev dotB:ByteArray:=⟨#[46]⟩
/-- a port's number -/
def portOk (p:ByteArray):Bool:=numOk 9 p&&(decide (1≤numV p)&&decide (numV p≤65535))
/-- the ports that need not be told -/
def plainP (p:List UInt8):Bool:=decide (p= [56,48])||decide (p= [52,52,51])
def hostForm (s:ByteArray):Bool:=
 (pieces ⟨(cutL 58 s.data.toList).1.toArray⟩ dotB).all (fun x=>labOk x.data.toList)&&decide (s.size≤255)&&(!(cutL 58 s.data.toList).2.2||portOk ⟨(cutL 58 s.data.toList).2.1.toArray⟩)
/-- a host in its normal form -/
def hostN (l:List UInt8):List UInt8:=if (cutL 58 l).2.2&&plainP (cutL 58 l).2.1 then Lib.toLowerA (cutL 58 l).1 else Lib.toLowerA l
theorem numOk_parts {m:Nat} {p:ByteArray} (h:numOk m p=true):numD p≠[]∧(numD p).length≤m∧(numD p).all isDig=true∧((numD p).head?≠some 48∨p.data.toList= [48]):=by
 unfold numOk at h
 simp only [Bool.and_eq_true,Bool.not_eq_true',decide_eq_true_eq,Bool.or_eq_true]at h
 obtain⟨⟨⟨h1,h2⟩,h3⟩,h4⟩:=h
 exact⟨fun e=>by rw [e]at h1;simp at h1,h2,h3,h4⟩
theorem num_text {m:Nat} {p:ByteArray} (h:numOk m p=true):Lib.itoa (numV p)=p.data.toList:=by
 obtain⟨h1,h2,h3,h4⟩:=numOk_parts h
 have q:=num_itoa (s:=p) h1 h3
 have:(decide ((numD p).head?≠some 48)||decide (p.data.toList= [48]))=true:=by
  rcases h4 with h4 | h4 <;> simp [h4]
 rw [this]at q
 simpa using q
theorem port_digs {p:ByteArray} (h:portOk p=true):p.data.toList≠[]∧p.data.toList.all isDig=true:=by
 unfold portOk at h
 simp only [Bool.and_eq_true,decide_eq_true_eq]at h
 obtain⟨h1,h2,h3⟩:=h
 obtain⟨q1,q2,q3,q4⟩:=numOk_parts h1
 rcases numD_cases p with⟨r,e1,e2⟩ |⟨e1,e2⟩
 ·obtain⟨m,h4,h5⟩:=num_atoi q1 q3
  have hv:numV p=if p.data.toList.head? =some 45 then -(m:Int) else m:=by unfold numV;rw [h5];rfl
  rw [e1,List.head?_cons,if_pos rfl]at hv
  omega
 ·rw [e2]at q1 q3
  exact⟨q1,q3⟩
theorem num_port {p:ByteArray} (h:portOk p=true):(decide (numV p=80)||decide (numV p=443))=plainP p.data.toList:=by
 have h1:numOk 9 p=true:=by unfold portOk at h;simp only [Bool.and_eq_true]at h;exact h.1
 have ht:=num_text h1
 unfold plainP
 rw [Bool.eq_iff_iff]
 simp only [Bool.or_eq_true,decide_eq_true_eq]
 constructor
 ·rintro(e | e) <;> rw [e]at ht <;> rw [← ht]
  ·exact .inl (by decide +kernel)
  ·exact .inr (by decide +kernel)
 ·rintro(e | e)
  ·exact .inl (by unfold numV;rw [e];decide +kernel)
  ·exact .inr (by unfold numV;rw [e];decide +kernel)
theorem hostN_prog {l:List UInt8} (h:(!(cutL 58 l).2.2||portOk ⟨(cutL 58 l).2.1.toArray⟩)=true):
  (if (cutL 58 (Lib.toLowerA l)).2.1= []∨plainP (cutL 58 (Lib.toLowerA l)).2.1=true then(cutL 58 (Lib.toLowerA l)).1 else(cutL 58 (Lib.toLowerA l)).1++58::(cutL 58 (Lib.toLowerA l)).2.1)=hostN l:=by
 rw [cutL_lower]
 unfold hostN
 cases hh:(cutL 58 l).2.2 with
 | false=>
  obtain⟨h1,h2⟩:=cutL_none hh
  rw [h1,h2]
  simp [Lib.toLowerA]
 | true=>
  rw [hh]at h
  simp only [Bool.not_true,Bool.false_or]at h
  obtain⟨d1,d2⟩:=port_digs h
  simp only at d1 d2
  have hj:=cutL_join 58 l
  rw [hh,if_pos rfl]at hj
  simp only [lower_digs d2,Bool.true_and]
  cases hp:plainP (cutL 58 l).2.1 with
  | true=>simp
  | false=>
   rw [if_neg (by simp [d1]),if_neg (by simp)]
   have e:Lib.toLowerA l=Lib.toLowerA (cutL 58 l).1++Lib.toLowerA (58::(cutL 58 l).2.1):=by
    conv=>lhs;rw [hj]
    unfold Lib.toLowerA
    rw [List.map_append]
   have e2:Lib.toLowerA (58::(cutL 58 l).2.1)=58::(cutL 58 l).2.1:=by
    have:=lower_digs d2
    unfold Lib.toLowerA at this ⊢
    rw [List.map_cons,this]
    rfl
   rw [e,e2]
theorem hostN_ref {l:List UInt8} (h:(!(cutL 58 l).2.2||portOk ⟨(cutL 58 l).2.1.toArray⟩)=true):
  Lib.toLowerA (cutL 58 l).1++(if (cutL 58 l).2.2=true∧plainP (cutL 58 l).2.1=false then 58::(cutL 58 l).2.1 else [])=hostN l:=by
 unfold hostN
 cases hh:(cutL 58 l).2.2 with
 | false=>
  obtain⟨h1,h2⟩:=cutL_none hh
  rw [h1,h2]
  simp
 | true=>
  rw [hh]at h
  simp only [Bool.not_true,Bool.false_or]at h
  obtain⟨d1,d2⟩:=port_digs h
  simp only at d1 d2
  have hj:=cutL_join 58 l
  rw [hh,if_pos rfl]at hj
  simp only [Bool.true_and]
  cases hp:plainP (cutL 58 l).2.1 with
  | true=>simp
  | false=>
   rw [if_pos (by simp),if_neg (by simp)]
   have e:Lib.toLowerA l=Lib.toLowerA (cutL 58 l).1++Lib.toLowerA (58::(cutL 58 l).2.1):=by
    conv=>lhs;rw [hj]
    unfold Lib.toLowerA
    rw [List.map_append]
   have e2:Lib.toLowerA (58::(cutL 58 l).2.1)=58::(cutL 58 l).2.1:=by
    have:=lower_digs d2
    unfold Lib.toLowerA at this ⊢
    rw [List.map_cons,this]
    rfl
   rw [e,e2]
theorem decDigits_len:∀(k n:Nat),n<10 ^ (k+1)→(Lib.decDigits n).length≤k+1
 | 0,n,h=>by rw [Lib.decDigits,dif_pos (by omega)];simp
 | k+1,n,h=>by
  rw [Lib.decDigits]
  split
  ·simp
  ·have:=decDigits_len k (n / 10) (by rw [Nat.pow_succ]at h;omega)
   simp only [List.length_append,List.length_cons,List.length_nil]
   omega
theorem numOk_more {m m':Nat} (h:m≤m') {p:ByteArray} (hp:numOk m p=true):numOk m' p=true:=by
 unfold numOk at hp ⊢
 simp only [Bool.and_eq_true,decide_eq_true_eq]at hp ⊢
 exact⟨⟨⟨hp.1.1.1,by omega⟩,hp.1.2⟩,hp.2⟩
theorem portOk_five (p:ByteArray):portOk p=(numOk 5 p&&(decide (1≤numV p)&&decide (numV p≤65535))):=by
 rw [Bool.eq_iff_iff]
 constructor
 ·intro h
  have hd:=port_digs h
  unfold portOk at h
  simp only [Bool.and_eq_true,decide_eq_true_eq]at h
  obtain⟨h1,h2,h3⟩:=h
  have ht:=num_text h1
  have hl:p.data.toList.length≤5:=by
   rw [← ht]
   obtain⟨k,hk⟩:∃ k:Nat,numV p=k:=⟨(numV p).toNat,by omega⟩
   rw [hk]
   have:=decDigits_len 4 k (by omega)
   exact this
  simp only [Bool.and_eq_true,decide_eq_true_eq]
  refine⟨?_,h2,h3⟩
  unfold numOk at h1 ⊢
  simp only [Bool.and_eq_true,decide_eq_true_eq]at h1 ⊢
  refine⟨⟨⟨h1.1.1.1,?_⟩,h1.1.2⟩,h1.2⟩
  have:(numD p).length≤p.data.toList.length:=by
   rcases numD_cases p with⟨r,e1,e2⟩ |⟨e1,e2⟩
   ·rw [e1,e2];simp
   ·rw [e2];exact Nat.le_refl _
  omega
 ·intro h
  unfold portOk
  simp only [Bool.and_eq_true,decide_eq_true_eq]at h ⊢
  exact⟨numOk_more (by omega) h.1,h.2⟩
/-- a plus sign stands for a blank -/
def plusC (c:UInt8):UInt8:=if c=43 then 32 else c
def plusL (l:List UInt8):List UInt8:=l.map plusC
/-- plus signs written as %20 -/
def repC (c:UInt8):List UInt8:=if c=43 then [37,50,48] else [c]
def repL (l:List UInt8):List UInt8:=l.flatMap repC
theorem repL_cons (c:UInt8) (l:List UInt8):repL (c::l)=repC c++repL l:=by simp [repL]
theorem repC_plain {c:UInt8} (h:c≠43):repC c= [c]:=if_neg h
theorem repL_plain {c:UInt8} (h:c≠43) (l:List UInt8):repL (c::l)=c::repL l:=by rw [repL_cons,repC_plain h];rfl
theorem repL_plus (l:List UInt8):repL (43::l)=37::50::48::repL l:=by rw [repL_cons];rfl
theorem plusC_pct {c:UInt8}:plusC c=37↔c=37:=by
 unfold plusC
 split
 ·rename_i h;subst h;decide
 ·exact Iff.rfl
theorem hex_blank:isHexN (32:UInt8).toNat=false:=by decide
theorem hex_pct:isHexN (37:UInt8).toNat=false:=by decide
theorem decL_bad1 {b c:UInt8} (h:(isHexN b.toNat&&isHexN c.toNat)=false) (r:List UInt8):decL (37::b::c::r)=none:=by
 rw [decL,if_pos rfl,if_neg (by rw [h];decide)]
theorem decL_rep:∀(n:Nat) (l:List UInt8),l.length≤n→decL (repL l)=decL (plusL l)
 | _,[],_=>rfl
 | 0,_::_,h=>by simp at h
 | n+1,a::r,h=>by
  have hr:r.length≤n:=by simpa using h
  by_cases e:a=43
  ·subst e
   rw [repL_plus,decL_unit (by decide),decL_rep n r hr]
   show _=decL (32::plusL r)
   rw [decL_plain (by decide)]
   rfl
  ·rw [repL_plain e]
   have e2:plusL (a::r)=a::plusL r:=by unfold plusL;rw [List.map_cons];unfold plusC;rw [if_neg e]
   rw [e2]
   by_cases e3:a=37
   ·subst e3
    match r,hr with
    | [],_=>rfl
    | [b],_=>
     by_cases eb:b=43
     ·subst eb;rfl
     ·rw [repL_plain eb]
      show decL [37,b]=decL [37,plusC b]
      simp [decL]
    | b::c::r,hr=>
     by_cases eb:b=43
     ·subst eb
      rw [repL_plus]
      show decL (37::37::50::_)=decL (37::32::_::_)
      rw [decL_bad1 (by decide),decL_bad1 (by rw [hex_blank];rfl)]
     ·rw [repL_plain eb]
      have eb2:plusC b=b:=by unfold plusC;rw [if_neg eb]
      by_cases ec:c=43
      ·subst ec
       rw [repL_plus]
       show decL (37::b::37::_)=decL (37::_::32::_)
       rw [decL_bad1 (by rw [hex_pct,Bool.and_false]),decL_bad1 (by rw [hex_blank,Bool.and_false])]
      ·rw [repL_plain ec]
       have ec2:plusC c=c:=by unfold plusC;rw [if_neg ec]
       show _=decL (37::plusC b::plusC c::plusL r)
       rw [eb2,ec2]
       by_cases hx:(isHexN b.toNat&&isHexN c.toNat)=true
       ·rw [decL_unit hx,decL_unit hx,decL_rep n r (by simp only [List.length_cons]at hr;omega)]
       ·have hx':(isHexN b.toNat&&isHexN c.toNat)=false:=by simpa using hx
        rw [decL_bad1 hx',decL_bad1 hx']
   ·rw [decL_plain e3,decL_plain e3,decL_rep n r hr]
/-- decoded with plus signs as blanks -/
def decP (l:List UInt8):Option (List UInt8):=decL (plusL l)
/-- what decodes does so piece by piece -/
theorem dec_sep {c:UInt8} (h1:isHexN c.toNat=false) (h2:c≠37):∀(n:Nat) (a:List UInt8),a.length≤n→∀ b,(decL (a++c::b)).isSome=((decL a).isSome&&(decL b).isSome)
 | _,[],_,b=>by
  rw [List.nil_append,decL_plain h2]
  simp [decL]
 | 0,_::_,h,_=>by simp at h
 | n+1,x::r,h,b=>by
  have hr:r.length≤n:=by simpa using h
  by_cases e:x=37
  ·subst e
   match r,hr with
   | [],_=>
    rw [List.cons_append,List.nil_append]
    cases b with
    | nil=>simp [decL]
    | cons y b=>rw [decL_bad1 (by rw [h1];rfl)];simp [decL]
   | [y],_=>
    rw [List.cons_append,List.cons_append,List.nil_append,decL_bad1 (by rw [h1,Bool.and_false])]
    simp [decL]
   | y::z::r,hr=>
    rw [List.cons_append,List.cons_append,List.cons_append]
    by_cases hx:(isHexN y.toNat&&isHexN z.toNat)=true
    ·rw [decL_unit hx,decL_unit hx,Option.isSome_map,Option.isSome_map,dec_sep h1 h2 n r (by simp only [List.length_cons]at hr;omega)]
    ·have hx':(isHexN y.toNat&&isHexN z.toNat)=false:=by simpa using hx
     rw [decL_bad1 hx',decL_bad1 hx']
     rfl
  ·rw [List.cons_append,decL_plain e,decL_plain e,Option.isSome_map,Option.isSome_map,dec_sep h1 h2 n r hr]
/-- what is wrong with a query's form -/
def queryBad (l:List UInt8):Int:=if 1000<l.length then 3 else if inR 33 126 l=false then 3 else if decide (0≤Lib.indexByte l 35)=true then 3 else 0
abbrev ampB:ByteArray:=⟨#[38]⟩
/-- the two sides of a pair as written -/
def cutE (x:ByteArray):List UInt8×List UInt8:=((cutL 61 x.data.toList).1,(cutL 61 x.data.toList).2.1)
/-- a pair as it is read -/
def pairQ (x:ByteArray):Option PairD:=
 match decP (cutE x).1,decP (cutE x).2 with
 | some a,some b=>some (⟨a.toArray⟩,⟨b.toArray⟩)
 | _,_=>none
/-- the pairs of pieces, the empty ones left out -/
def pairsQ:List ByteArray→Option (List PairD)
 | []=>some []
 | x::r=>if x=⟨#[]⟩ then pairsQ r else match pairQ x with
  | none=>none
  | some p=>(pairsQ r).map (p:: ·)
/-- a query as it is read: the error, the pairs -/
def queryOf (s:ByteArray):Int×List PairD:=
 if queryBad s.data.toList≠0 then(queryBad s.data.toList,[]) else
 match pairsQ (pieces s ampB)with
 | none=>(9,[])
 | some l=>if 100<l.length then(2,[]) else(0,l)
/-- a word of a query as it is written -/
def wordC (c:UInt8):List UInt8:=if c=32 then [43] else if freeN c.toNat then [c] else pctC c
def wordQ (s:ByteArray):List UInt8:=s.data.toList.flatMap wordC
def pairT (p:PairD):List UInt8:=wordQ p.1++61::wordQ p.2
def emptyP (p:PairD):Bool:=decide (p.1=⟨#[]⟩)&&decide (p.2=⟨#[]⟩)
/-- pairs written as a query -/
def queryT (l:List PairD):Int×List UInt8:=
 if 100<l.length then(2,[]) else if l.any emptyP then(3,[]) else
 if 1000<(Lib.join (l.map pairT) [38]).length then(2,[]) else(0,Lib.join (l.map pairT) [38])
theorem wordC_length (c:UInt8):(wordC c).length≤3:=by unfold wordC pctC;split <;> (try split) <;> simp
theorem wordQ_length (s:ByteArray):(wordQ s).length≤3 * s.size:=by
 show _≤3 * s.data.size
 rw [← Array.length_toList]
 unfold wordQ
 generalize s.data.toList=l
 induction l with
 | nil=>simp
 | cons c l ih=>rw [List.flatMap_cons,List.length_append,List.length_cons];have:=wordC_length c;omega
end Go.Proofs.YtnlloaimplgjnaaGreatDoor
