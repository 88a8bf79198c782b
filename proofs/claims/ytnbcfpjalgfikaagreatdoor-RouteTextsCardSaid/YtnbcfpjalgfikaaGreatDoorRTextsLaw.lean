/- The law RouteTexts, walked. Conditions: the argument is a slice of ints that can be read; the library's variables lie as they should. -/
import Derived.Test.YtnbcfpjalgfikaaGreatDoorRtStr
import Derived.Test.YtnbcfpjalgfikaaGreatDoorRdQGrp
import Derived.Test.YtnbcfpjalgfikaaGreatDoorRtTxt
import Derived.Test.YtnbcfpjalgfikaaGreatDoorRtSameGrp
import Derived.Test.YtnbcfpjalgfikaaGreatDoorTpl0
import Derived.Test.YtnbcfpjalgfikaaGreatDoorRtEqT
import Derived.Test.YtnbcfpjalgfikaaGreatDoorLawSGrp
namespace Go.Proofs.YtnbcfpjalgfikaaGreatDoor
open Go.RowKit
set_option linter.unusedVariables false
set_option linter.unusedSimpArgs false

theorem rtTextOut_parts {rs : List RtD} (h : ∀ r ∈ rs, RtMini r) (hn : rs.length ≤ 3) : (RtTextOut rs).2 = routesF rs ∧ (routesF rs = 0 → (RtTextOut rs).1 = ⟨(routesR rs).toArray⟩) ∧ (routesF rs ≠ 0 → (RtTextOut rs).1 = ⟨#[]⟩) := by
  unfold RtTextOut
  by_cases hf : routesF rs = 0
  · have hl := routesR_mini h
    have he := routesR_right hf
    rw [he] at hl ⊢
    rw [if_pos hf, if_pos (by omega)]
    exact ⟨hf.symm, fun _ => rfl, fun q => absurd hf q⟩
  · rw [if_neg hf]
    exact ⟨rfl, fun q => absurd q hf, fun _ => rfl⟩
theorem readSt_small : ∀ (P : List ByteArray) (s : RdS) (k m : Nat), RdSmall m s → (∀ x ∈ P, x.size ≤ 9000) → RdSmall (m + P.length) (readSt stepR P s k).1
  | [], s, k, m, h, _ => by rw [readSt]; exact h
  | l :: r, s, k, m, h, hP => by
    by_cases hr : r = []
    · subst hr
      rw [readSt_last]
      split <;> exact h.up (by omega)
    · cases hs : stepR s l with
      | none => rw [readSt_bad hr hs]; exact h.up (by omega)
      | some s' =>
        rw [readSt_good hr hs]
        have := readSt_small r s' (k + 1) (m + 1) (h.step (hP l List.mem_cons_self) hs) (fun x hx => hP x (List.mem_cons_of_mem _ hx))
        exact this.up (by simp; omega)
theorem rdText_small {t : ByteArray} (ht : t.size ≤ 9000) : (rdText t).1.length ≤ 9001 ∧ ∀ r ∈ (rdText t).1, r.hosts.length ≤ 1000000 ∧ r.methods.length ≤ 1000000 ∧ r.needs.length ≤ 1000000 := by
  have hlen : (pieces t nl).length ≤ 9001 := by
    rw [pieces_length (show 1 ≤ (nl : ByteArray).size from Nat.le_refl _)]
    have := Lib.countB_le nl (Nat.le_refl _) t.size t (Nat.le_refl _)
    omega
  have h := (readSt_small (pieces t nl) ⟨[], 0⟩ 0 0 RdSmall.nil (fun x hx => Nat.le_trans (pieces_le hx) ht)).up (m' := 9001) (by omega)
  have key : ∀ l : List RtD, l = [] ∨ l = (readSt stepR (pieces t nl) ⟨[], 0⟩ 0).1.out → l.length ≤ 9001 ∧ ∀ r ∈ l, r.hosts.length ≤ 1000000 ∧ r.methods.length ≤ 1000000 ∧ r.needs.length ≤ 1000000 := fun l hl => by
    rcases hl with rfl | rfl
    · exact ⟨by simp, fun r hr => by cases hr⟩
    · exact ⟨h.out, fun r hr => by
        have := (h.each r hr).hosts.1
        have := (h.each r hr).methods.1
        have := (h.each r hr).needs.1
        omega⟩
  apply key
  unfold rdText
  split
  · exact .inl rfl
  · simp only
    split
    · exact .inl rfl
    · split
      · exact .inl rfl
      · exact .inr rfl
theorem RtRows.stream {b k k' : Nat} {w w' : World} {A : Option Addr} {n : Nat} {rs : List RtD} (h : RtRows w A n rs) (hs : SInv b w k) (hm : SStep b w w' k') : RtRows w' A n rs := by
  obtain ⟨xs, h1, h2⟩ := h
  exact ⟨xs, h1.mod hm.only (fun g hg e => hg.ne hs.tbS (by decide) e), h2.imp (fun _ _ q => q.stream hs hm)⟩
theorem Pow10.stream {w0 w w' : World} {b k : Nat} (h0 : Pow10 w0) (hb : w0.heap.size ≤ b) (h : Pow10 w) (hm : SStep b w w' k) : Pow10 w' := h0.mod h hm.only (fun g hg e => by omega)
set_option maxRecDepth 100000 in
set_option maxHeartbeats 1000000 in
theorem routeTexts_walk (A : Option Addr) (n c : Nat) (w : World) (h : InInts w A n) (hX0 : MaxLn w) (hP0 : Pow10 w) :
    Calls Tryz.prog 3 #[.slice A n c] w fun e w' => e = .returned (.bool true) ∧ New w w' := by
  have hs := SInv.start (c := c) h
  go_enter Tryz.func3, Tryz.ntmps3
  go_wp2_with fail
  have T0 := SStep.refl hs
  have hA : New w (w.alloc (.cells #[.slice A n c, .int .i64 0] 25)) := (Mod.refl _ _).alloc _
  have HXA := Lib.hid (MaxB.of hX0 (Nat.le_refl _) (hX0.new hA))
  have HPA := Lib.hid (hP0.new hA)
  have HP0 := Lib.hid hP0
  clear hX0 hP0
  generalize hW0 : w.alloc (.cells #[.slice A n c, .int .i64 0] 25) = W0 at *
  have hnews : ∀ w' k, SStep w.heap.size W0 w' k → New w w' := fun w' k hh => by rw [← hW0] at hh; exact hh.news
  have HN := Lib.hid hnews
  clear hnews hW0 hA
  refine (routes_any _ _ 3 _ hs (by omega) HXA.out (by omega)).mono ?_
  rintro e w1 ⟨A1, m1, c1, xs, rs, rfl, ho, ha, hmi, hm3, h1⟩
  have T1 := T0.trans h1
  have HX1 := Lib.hid (HXA.out.stream h1)
  have HP1 := Lib.hid (HP0.out.stream (Nat.le_refl _) HPA.out h1)
  have hrr : RtRows w1 A1 m1 rs := ⟨xs, ho.sl, ha⟩
  have hrl := hrr.len
  have HRR := Lib.hid hrr
  have HMI := Lib.hid hmi
  have HSH := Lib.hid (fun r hr => (hmi r hr).short)
  obtain ⟨z1, z2, z3⟩ := rtTextOut_parts hmi (by omega)
  have htx := rt_text rs A1 m1 c1 w1 hrr (by omega) HSH.out HX1.out.1
  unfold RRtText at htx
  rw [z1] at htx
  have hrf := fun W (hm : New w1 W) => ref_routesFault A1 m1 c1 rs W (HRR.out.new hm) HSH.out (HX1.out.1.new hm) (HP1.out.new hm) (by omega)
  have hrl2 := fun W (hm : New w1 W) => ref_routeLines rs A1 m1 c1 W (HRR.out.new hm) (by omega) HSH.out
  have HRF := Lib.hid hrf
  have HRL := Lib.hid hrl2
  have HZ2 := Lib.hid z2
  have HZ3 := Lib.hid z3
  clear T0 h1 HXA HPA hs ho ha hmi hrr hrl hrf hrl2 z1 z2 z3
  generalize (RtTextOut rs).1 = TX at *
  generalize routesF rs = F at *
  generalize (⟨(routesR rs).toArray⟩ : ByteArray) = TR at *
  go_wp2_with fail
  refine htx.mono ?_
  clear htx
  rintro e w2 ⟨rfl, m2⟩
  have M2 := Lib.hid m2
  clear m2
  go_wp2_with fail
  refine (HRF.out _ M2.out).mono ?_
  rintro e w3 ⟨rfl, m3⟩
  have M3 := Lib.hid (M2.out.trans m3)
  clear m3 M2 HRF
  have hff : ((F : Int) != F) = false := by simp
  go_upto_region 5 with fail
  go_cut [47] (fun s47 wx => s47 = .bool false ∧ Hid (New w1 wx))
  case first =>
    by_cases hF : F = 0
    · have hTX := HZ2.out hF
      subst hTX
      subst hF
      have hxx : (TX.toList == TX.toList) = true := by simp
      go_wp2_with fail
      refine (HRL.out _ M3.out).mono ?_
      rintro e w4 ⟨rfl, m4⟩
      have M4 := Lib.hid (M3.out.trans m4)
      clear m4
      go_wp2_with fail
      go_meet
      case rel => exact ⟨rfl, M4⟩
    · have hTX := HZ3.out hF
      subst hTX
      have hF1 : ((F : Int) == 0) = false := by simpa using hF
      have hF2 : ((F : Int) != 0) = true := by simpa using hF
      have he : (⟨#[]⟩ : ByteArray).toList.isEmpty = true := by rw [emp_eq]; simp
      clear hF HZ2 HZ3
      go_wp2_with fail
      go_meet
      case rel => exact ⟨rfl, M3⟩
  case rest =>
    rename World => wx
    obtain ⟨rfl, M4⟩ := hcut
    have T4 := T1.new M4.out
    have HX4 := Lib.hid (HX1.out.mod M4.out (fun e => e))
    have HP4 := Lib.hid (HP1.out.new M4.out)
    clear M3 M4 HRL HZ2 HZ3 HRR HMI HSH HX1 HP1 T1
    go_wp2_with fail
    refine (routeString_any _ _ wx T4.inv (by omega) HX4.out).mono ?_
    rintro e w5 ⟨t, rfl, htz, h5⟩
    have T5 := T4.trans h5
    have HX5 := Lib.hid (HX4.out.stream h5)
    have HP5 := Lib.hid (HP0.out.stream (Nat.le_refl _) HP4.out h5)
    clear T4 h5 HX4 HP4
    have hrd := rt_read t w5 htz HX5.out.1
    have HRQ := Lib.hid (fun W (hm : New w5 W) => ref_routesRead t W htz (HX5.out.1.new hm) (HP5.out.new hm))
    have hty : (rdText t).1.length ≤ 9001 ∧ ∀ r ∈ (rdText t).1, r.hosts.length ≤ 1000000 ∧ r.methods.length ≤ 1000000 ∧ r.needs.length ≤ 1000000 := rdText_small htz
    unfold RRtRead at hrd HRQ
    generalize rdText t = q at *
    obtain ⟨qs, qi, qf⟩ := q
    simp only at hrd HRQ hty
    go_wp2_with fail
    refine hrd.mono ?_
    clear hrd
    rintro e w6 ⟨A6, n6, c6, rfl, hr6, m6⟩
    have HR6 := Lib.hid hr6
    have M6 := Lib.hid m6
    clear hr6 m6
    go_wp2_with fail
    refine (HRQ.out _ M6.out).mono ?_
    rintro e w7 ⟨A7, n7, c7, rfl, hr7, m7⟩
    have hl6 : n6 ≤ 1000000 := by have := HR6.out.len; omega
    have hsr := fun W (hm : New w7 W) => sameRoutes_v qs A6 A7 n6 n7 c6 c7 W ((HR6.out.new m7).new hm) (hr7.new hm) hl6 hty.2
    have HSR := Lib.hid hsr
    have M7 := Lib.hid (M6.out.trans m7)
    clear hr7 m7 hsr HRQ M6 HR6 hty
    have e1 : ((qf : Int) == qf) = true := by simp
    have e2 : ((qi : Int) == qi) = true := by simp
    go_wp2_with fail
    refine (HSR.out _ (Mod.refl _ _)).mono ?_
    rintro e w8 ⟨rfl, m8⟩
    have M8 := Lib.hid (M7.out.trans m8)
    clear m8 HSR
    go_wp2_with fail
    refine (routed_true _ (HX5.out.1.new M8.out)).mono ?_
    rintro e w9 ⟨rfl, m9⟩
    have M9 := Lib.hid (M8.out.trans m9)
    clear m9
    go_wp2_with fail
    go_ret
    exact ⟨rfl, HN.out _ _ (T5.new M9.out)⟩
end Go.Proofs.YtnbcfpjalgfikaaGreatDoor
