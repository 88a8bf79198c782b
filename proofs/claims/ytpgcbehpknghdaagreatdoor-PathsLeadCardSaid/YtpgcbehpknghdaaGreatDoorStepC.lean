/- Steps in memory: what is wrong with a path. Conditions: names of modest size; the library's tables lie as they should. -/
import Derived.Test.YtpgcbehpknghdaaGreatDoorVal1Grp
import Derived.Test.YtpgcbehpknghdaaGreatDoorChgMemGrp
import Derived.Test.YtpgcbehpknghdaaGreatDoorVal2Grp
namespace Go.Proofs.YtpgcbehpknghdaaGreatDoor
open Go.RowKit
set_option linter.unusedVariables false
set_option linter.unusedSimpArgs false

/-- steps that walks can carry -/
def StOk (p : List St) : Prop := ∀ s ∈ p, s.name.size ≤ 1000000

theorem stepF_eq (nm : Bool) (s : ByteArray) (a : Int) : stepF ⟨nm, s, a⟩ = if ((nm && a != 0) || (!nm && !(s.toList == []))) = true then 3 else if nameF s ≠ 0 then nameF s else if (!(decide (0 ≤ a) && decide (a ≤ 5000))) = true then 1 else 0 := by
  unfold stepF
  rw [str_nil']
  simp only [ne_eq, decide_not]
  congr 2
  by_cases h : a < 0 ∨ 5000 < a
  · rw [if_pos h, if_pos]
    simp; omega
  · rw [if_neg h, if_neg]
    simp; omega


set_option maxRecDepth 100000 in
set_option maxHeartbeats 1500000 in
theorem checkPath_v (A : Option Addr) (n c : Nat) (l : List St) (w : World) (hs : Sl w 46 3 St.enc A n l) (hn : n ≤ 200000) (hok : StOk l) (hU : Utf8T w) :
    Calls Tryz.prog 12 #[.slice A n c] w fun e w' => e = .returned (.int .i64 (pathF l)) ∧ New w w' := by
  have hl := hs.1
  by_cases h50 : 50 < n
  · have hF : pathF l = 2 := by unfold pathF; rw [if_pos (by omega)]
    rw [hF]
    have h50' : (50 : Int) < n := by omega
    go_enter Tryz.func12, Tryz.ntmps12
    go_wp2_with fail
    go_ret
    exact ⟨rfl, Mod.refl _ _⟩
  have hF : pathF l = fz (l.map stepF) := by unfold pathF; rw [if_neg (by omega)]
  have h50' : ¬ (50 : Int) < n := by omega
  generalize pathF l = F at *
  have HF := Lib.hid hF
  have HL := Lib.hid hl
  have HS := Lib.hid hs
  have HSZ := Lib.hid hok
  have HU := Lib.hid hU
  clear hF hs hok hU hl
  go_enter Tryz.func12, Tryz.ntmps12
  go_wp2_with fail
  go_loopw [10] (fun i wr => ∃ k : Nat, k ≤ n ∧ i = .int .i64 k ∧ Hid (fz ((l.take k).map stepF) = 0) ∧ Hid (New w wr)) (fun i _ => n - (intOf i).toNat)
  case atStart => exact ⟨0, Nat.zero_le _, rfl, Lib.hid rfl, Lib.hid (Mod.refl _ _)⟩
  case round =>
    rename World => wr
    obtain ⟨k, hk, rfl, H0, HM⟩ := hrel
    by_cases hlt : k < n
    · have hkl : k < l.length := by have := HL.out; omega
      obtain ⟨g, o, hA, htb, hc0⟩ := (HS.out.new HM.out).2 (by omega)
      subst hA
      have hgl := htb.lt
      have hc := fun j h => hc0 k hkl j h
      clear hc0
      have hnb := HSZ.out l[k] (List.getElem_mem _)
      have HST : Hid (stepF l[k] ≠ 0 → F = stepF l[k]) := Lib.hid (fun h => by rw [HF.out, fz_map_stop stepF hkl H0.out h])
      have HNX : Hid (stepF l[k] = 0 → fz ((l.take (k + 1)).map stepF) = 0) := Lib.hid (fun h => by rw [fz_map_take stepF hkl, H0.out, h]; rfl)
      generalize l[k] = y at *
      obtain ⟨nm, s, a⟩ := y
      have c0 := hc 0 (by omega)
      have c1 := hc 1 (by omega)
      have c2 := hc 2 (by omega)
      simp only [St.enc, Nat.add_zero] at c0 c1 c2
      simp only at hnb
      clear hc htb
      have hb1 : (0 : Int) ≤ k := by omega
      have hb2 : (k : Int) < n := by omega
      have HE := Lib.hid (stepF_eq nm s a)
      have hU1 := HU.out.new HM.out
      generalize stepF ⟨nm, s, a⟩ = f at *
      have HNB := Lib.hid hnb
      have hma : New wr (wr.alloc (.cells #[.bool nm, .string s, .int .i64 a] 46)) := (Mod.refl _ _).alloc _
      have hx := Blk.new wr 46 #[.bool nm, .string s, .int .i64 a]
      go_upto_region 6 with (fail)
      have HM5 := Lib.hid (HM.out.trans hma)
      have hU5 := hU1.new hma
      generalize wr.alloc (.cells #[.bool nm, .string s, .int .i64 a] 46) = w5 at *
      have e0 := hx.cell 0
      have e1 := hx.cell 1
      have e2 := hx.cell 2
      have el := hx.lt
      simp only [List.getElem?_toArray, List.getElem?_cons_zero, List.getElem?_cons_succ] at e0 e1 e2
      have HU5 := Lib.hid hU5
      clear c0 c1 c2 hgl hma hx hU1 hU5
      generalize wr.heap.size = xb at *
      cases nm with
      | true =>
        by_cases ha : a = 0
        · have ha1 : (a != 0) = false := by simpa using ha
          clear ha
          have HE1 : Hid (f = if nameF s ≠ 0 then nameF s else if (!(decide (0 ≤ a) && decide (a ≤ 5000))) = true then 1 else 0) := Lib.hid (by
            have h := HE.out
            rw [if_neg (by simp [ha1])] at h
            exact h)
          clear HE
          by_cases hn1 : 100 < s.size
          · have hn2 : (100 : Int) < s.size := by omega
            have HFF : Hid (F = 2) := Lib.hid (by
              have h : nameF s = 2 := by unfold nameF; rw [if_pos hn1]
              have h2 := HE1.out
              rw [h, if_pos (by decide)] at h2
              rw [HST.out (by rw [h2]; decide), h2])
            go_wp2_with fail
            go_ret
            exact ⟨ret_int HFF.out.symm, HM5.out⟩
          · have hn2 : ¬ (100 : Int) < s.size := by omega
            have hv := valid_v s w5 HNB.out HU5.out
            have HNF : Hid (nameF s = if validW s = false then 3 else 0) := Lib.hid (by unfold nameF; rw [if_neg hn1])
            generalize validW s = V at *
            go_upto_region 10 with (fail)
            go_wp2_with fail
            refine hv.mono ?_
            clear hv
            rintro e w6 ⟨rfl, m6⟩
            have HM6 := Lib.hid (HM5.out.trans m6)
            have e2' := (m6.cell (p := ⟨xb, 2, none⟩) el (fun e => e)).trans e2
            have el' := Nat.lt_of_lt_of_le el m6.size
            clear e0 e1 e2 el m6
            cases V with
            | false =>
              have HFF : Hid (F = 3) := Lib.hid (by
                have h := HNF.out
                rw [if_pos rfl] at h
                have h2 := HE1.out
                rw [h, if_pos (by decide)] at h2
                rw [HST.out (by rw [h2]; decide), h2])
              go_wp2_with fail
              go_ret
              exact ⟨ret_int HFF.out.symm, HM6.out⟩
            | true =>
              have HE2 : Hid (f = if (!(decide (0 ≤ a) && decide (a ≤ 5000))) = true then 1 else 0) := Lib.hid (by
                have h := HNF.out
                rw [if_neg (by decide)] at h
                have h2 := HE1.out
                rw [h, if_neg (by decide)] at h2
                exact h2)
              have hou := outside_v a 0 5000 w6
              go_wp2_with fail
              refine hou.mono ?_
              clear hou
              rintro e w7 ⟨rfl, rfl⟩
              generalize (!(decide (0 ≤ a) && decide (a ≤ 5000))) = O at *
              cases O with
              | true =>
                have HFF : Hid (F = 1) := Lib.hid (by
                  have h2 := HE2.out
                  rw [if_pos (by decide)] at h2
                  rw [HST.out (by rw [h2]; decide), h2])
                go_wp2_with fail
                go_ret
                exact ⟨ret_int HFF.out.symm, HM6.out⟩
              | false =>
                have HG := Lib.hid (HNX.out (by
                  have h2 := HE2.out
                  rw [if_neg (by decide)] at h2
                  exact h2))
                go_wp2_with fail
                go_roundw
                case rel => exact ⟨k + 1, by omega, by go_num, HG, HM6⟩
                case measure => simp [intOf]; omega
        · have ha1 : (a != 0) = true := by simpa using ha
          clear ha
          have HFF : Hid (F = 3) := Lib.hid (by
            have h := HE.out
            rw [if_pos (by simp [ha1])] at h
            rw [HST.out (by rw [h]; decide), h])
          go_wp2_with fail
          go_ret
          exact ⟨ret_int HFF.out.symm, HM5.out⟩
      | false =>
        cases hs0 : (s.toList == []) with
        | true =>
          have HE1 : Hid (f = if nameF s ≠ 0 then nameF s else if (!(decide (0 ≤ a) && decide (a ≤ 5000))) = true then 1 else 0) := Lib.hid (by
            have h := HE.out
            rw [if_neg (by simp [hs0])] at h
            exact h)
          clear HE
          by_cases hn1 : 100 < s.size
          · have hn2 : (100 : Int) < s.size := by omega
            have HFF : Hid (F = 2) := Lib.hid (by
              have h : nameF s = 2 := by unfold nameF; rw [if_pos hn1]
              have h2 := HE1.out
              rw [h, if_pos (by decide)] at h2
              rw [HST.out (by rw [h2]; decide), h2])
            go_wp2_with fail
            go_ret
            exact ⟨ret_int HFF.out.symm, HM5.out⟩
          · have hn2 : ¬ (100 : Int) < s.size := by omega
            have hv := valid_v s w5 HNB.out HU5.out
            have HNF : Hid (nameF s = if validW s = false then 3 else 0) := Lib.hid (by unfold nameF; rw [if_neg hn1])
            generalize validW s = V at *
            go_upto_region 10 with (fail)
            go_wp2_with fail
            refine hv.mono ?_
            clear hv
            rintro e w6 ⟨rfl, m6⟩
            have HM6 := Lib.hid (HM5.out.trans m6)
            have e2' := (m6.cell (p := ⟨xb, 2, none⟩) el (fun e => e)).trans e2
            have el' := Nat.lt_of_lt_of_le el m6.size
            clear e0 e1 e2 el m6
            cases V with
            | false =>
              have HFF : Hid (F = 3) := Lib.hid (by
                have h := HNF.out
                rw [if_pos rfl] at h
                have h2 := HE1.out
                rw [h, if_pos (by decide)] at h2
                rw [HST.out (by rw [h2]; decide), h2])
              go_wp2_with fail
              go_ret
              exact ⟨ret_int HFF.out.symm, HM6.out⟩
            | true =>
              have HE2 : Hid (f = if (!(decide (0 ≤ a) && decide (a ≤ 5000))) = true then 1 else 0) := Lib.hid (by
                have h := HNF.out
                rw [if_neg (by decide)] at h
                have h2 := HE1.out
                rw [h, if_neg (by decide)] at h2
                exact h2)
              have hou := outside_v a 0 5000 w6
              go_wp2_with fail
              refine hou.mono ?_
              clear hou
              rintro e w7 ⟨rfl, rfl⟩
              generalize (!(decide (0 ≤ a) && decide (a ≤ 5000))) = O at *
              cases O with
              | true =>
                have HFF : Hid (F = 1) := Lib.hid (by
                  have h2 := HE2.out
                  rw [if_pos (by decide)] at h2
                  rw [HST.out (by rw [h2]; decide), h2])
                go_wp2_with fail
                go_ret
                exact ⟨ret_int HFF.out.symm, HM6.out⟩
              | false =>
                have HG := Lib.hid (HNX.out (by
                  have h2 := HE2.out
                  rw [if_neg (by decide)] at h2
                  exact h2))
                go_wp2_with fail
                go_roundw
                case rel => exact ⟨k + 1, by omega, by go_num, HG, HM6⟩
                case measure => simp [intOf]; omega
        | false =>
          have HFF : Hid (F = 3) := Lib.hid (by
            have h := HE.out
            rw [if_pos (by simp [hs0])] at h
            rw [HST.out (by rw [h]; decide), h])
          go_wp2_with fail
          go_ret
          exact ⟨ret_int HFF.out.symm, HM5.out⟩
    · obtain rfl : k = n := by omega
      have HFF : Hid (F = 0) := Lib.hid (by rw [HF.out, ← H0.out, List.take_of_length_le (by have := HL.out; omega)])
      go_wp2_with fail
      go_ret
      exact ⟨ret_int HFF.out.symm, HM.out⟩

set_option maxRecDepth 100000 in
set_option maxHeartbeats 1500000 in
theorem pathFault_v (A : Option Addr) (n c : Nat) (l : List St) (w : World) (hs : Sl w 46 3 St.enc A n l) (hn : n ≤ 200000) (hok : StOk l) (hU : Utf8T w) :
    Calls Tryz.prog 10 #[.slice A n c] w fun e w' => e = .returned (.int .i64 (pathF l)) ∧ New w w' := by
  have hl := hs.1
  by_cases h50 : 50 < n
  · have hF : pathF l = 2 := by unfold pathF; rw [if_pos (by omega)]
    rw [hF]
    have h50' : (50 : Int) < n := by omega
    go_enter Tryz.func10, Tryz.ntmps10
    go_wp2_with fail
    go_ret
    exact ⟨rfl, Mod.refl _ _⟩
  have hF : pathF l = fz (l.map stepF) := by unfold pathF; rw [if_neg (by omega)]
  have h50' : ¬ (50 : Int) < n := by omega
  generalize pathF l = F at *
  have HF := Lib.hid hF
  have HL := Lib.hid hl
  have HS := Lib.hid hs
  have HSZ := Lib.hid hok
  have HU := Lib.hid hU
  clear hF hs hok hU hl
  go_enter Tryz.func10, Tryz.ntmps10
  go_wp2_with fail
  go_loopw [11] (fun i wr => ∃ k : Nat, k ≤ n ∧ i = .int .i64 k ∧ Hid (fz ((l.take k).map stepF) = 0) ∧ Hid (New w wr)) (fun i _ => n - (intOf i).toNat)
  case atStart => exact ⟨0, Nat.zero_le _, rfl, Lib.hid rfl, Lib.hid (Mod.refl _ _)⟩
  case round =>
    rename World => wr
    obtain ⟨k, hk, rfl, H0, HM⟩ := hrel
    by_cases hlt : k < n
    · have hkl : k < l.length := by have := HL.out; omega
      obtain ⟨g, o, hA, htb, hc0⟩ := (HS.out.new HM.out).2 (by omega)
      subst hA
      have hgl := htb.lt
      have hc := fun j h => hc0 k hkl j h
      clear hc0
      have hnb := HSZ.out l[k] (List.getElem_mem _)
      have HST : Hid (stepF l[k] ≠ 0 → F = stepF l[k]) := Lib.hid (fun h => by rw [HF.out, fz_map_stop stepF hkl H0.out h])
      have HNX : Hid (stepF l[k] = 0 → fz ((l.take (k + 1)).map stepF) = 0) := Lib.hid (fun h => by rw [fz_map_take stepF hkl, H0.out, h]; rfl)
      generalize l[k] = y at *
      obtain ⟨nm, s, a⟩ := y
      have c0 := hc 0 (by omega)
      have c1 := hc 1 (by omega)
      have c2 := hc 2 (by omega)
      simp only [St.enc, Nat.add_zero] at c0 c1 c2
      simp only at hnb
      clear hc htb
      have hb1 : (0 : Int) ≤ k := by omega
      have hb2 : (k : Int) < n := by omega
      have HE := Lib.hid (stepF_eq nm s a)
      have hU1 := HU.out.new HM.out
      generalize stepF ⟨nm, s, a⟩ = f at *
      have HNB := Lib.hid hnb
      have hma : New wr (wr.alloc (.cells #[.bool nm, .string s, .int .i64 a] 46)) := (Mod.refl _ _).alloc _
      have hx := Blk.new wr 46 #[.bool nm, .string s, .int .i64 a]
      go_upto_region 6 with (fail)
      have HM5 := Lib.hid (HM.out.trans hma)
      have hU5 := hU1.new hma
      generalize wr.alloc (.cells #[.bool nm, .string s, .int .i64 a] 46) = w5 at *
      have e0 := hx.cell 0
      have e1 := hx.cell 1
      have e2 := hx.cell 2
      have el := hx.lt
      simp only [List.getElem?_toArray, List.getElem?_cons_zero, List.getElem?_cons_succ] at e0 e1 e2
      have HU5 := Lib.hid hU5
      clear c0 c1 c2 hgl hma hx hU1 hU5
      generalize wr.heap.size = xb at *
      cases nm with
      | true =>
        by_cases ha : a = 0
        · have ha1 : (a != 0) = false := by simpa using ha
          clear ha
          have HE1 : Hid (f = if nameF s ≠ 0 then nameF s else if (!(decide (0 ≤ a) && decide (a ≤ 5000))) = true then 1 else 0) := Lib.hid (by
            have h := HE.out
            rw [if_neg (by simp [ha1])] at h
            exact h)
          clear HE
          have hn2 := ref_nameFault_v s w5 HNB.out HU5.out
          generalize nameF s = nf at *
          go_wp2_with fail
          refine hn2.mono ?_
          clear hn2
          rintro e w6 ⟨rfl, m6⟩
          have HM6 := Lib.hid (HM5.out.trans m6)
          have e2' := (m6.cell (p := ⟨xb, 2, none⟩) el (fun e => e)).trans e2
          have el' := Nat.lt_of_lt_of_le el m6.size
          clear e0 e1 e2 el m6
          by_cases hnf : nf = 0
          · subst hnf
            have HE2 : Hid (f = if (!(decide (0 ≤ a) && decide (a ≤ 5000))) = true then 1 else 0) := Lib.hid (by
              have h2 := HE1.out
              rw [if_neg (by decide)] at h2
              exact h2)
            have hou := in_v a 0 5000 w6
            go_wp2_with fail
            refine hou.mono ?_
            clear hou
            rintro e w7 ⟨rfl, rfl⟩
            generalize (decide (0 ≤ a) && decide (a ≤ 5000)) = O at *
            cases O with
            | false =>
              have HFF : Hid (F = 1) := Lib.hid (by
                have h2 := HE2.out
                rw [if_pos (by decide)] at h2
                rw [HST.out (by rw [h2]; decide), h2])
              go_wp2_with fail
              go_ret
              exact ⟨ret_int HFF.out.symm, HM6.out⟩
            | true =>
              have HG := Lib.hid (HNX.out (by
                have h2 := HE2.out
                rw [if_neg (by decide)] at h2
                exact h2))
              go_wp2_with fail
              go_roundw
              case rel => exact ⟨k + 1, by omega, by go_num, HG, HM6⟩
              case measure => simp [intOf]; omega
          · have hn1 : (nf != 0) = true := by simpa using hnf
            have HFF : Hid (F = nf) := Lib.hid (by
              have h2 := HE1.out
              rw [if_pos hnf] at h2
              rw [HST.out (by rw [h2]; exact hnf), h2])
            clear hnf
            go_wp2_with fail
            go_ret
            exact ⟨ret_int HFF.out.symm, HM6.out⟩
        · have ha1 : (a != 0) = true := by simpa using ha
          clear ha
          have HFF : Hid (F = 3) := Lib.hid (by
            have h := HE.out
            rw [if_pos (by simp [ha1])] at h
            rw [HST.out (by rw [h]; decide), h])
          go_wp2_with fail
          go_ret
          exact ⟨ret_int HFF.out.symm, HM5.out⟩
      | false =>
        cases hs0 : (s.toList == []) with
        | true =>
          have HE1 : Hid (f = if nameF s ≠ 0 then nameF s else if (!(decide (0 ≤ a) && decide (a ≤ 5000))) = true then 1 else 0) := Lib.hid (by
            have h := HE.out
            rw [if_neg (by simp [hs0])] at h
            exact h)
          clear HE
          have hn2 := ref_nameFault_v s w5 HNB.out HU5.out
          generalize nameF s = nf at *
          go_wp2_with fail
          refine hn2.mono ?_
          clear hn2
          rintro e w6 ⟨rfl, m6⟩
          have HM6 := Lib.hid (HM5.out.trans m6)
          have e2' := (m6.cell (p := ⟨xb, 2, none⟩) el (fun e => e)).trans e2
          have el' := Nat.lt_of_lt_of_le el m6.size
          clear e0 e1 e2 el m6
          by_cases hnf : nf = 0
          · subst hnf
            have HE2 : Hid (f = if (!(decide (0 ≤ a) && decide (a ≤ 5000))) = true then 1 else 0) := Lib.hid (by
              have h2 := HE1.out
              rw [if_neg (by decide)] at h2
              exact h2)
            have hou := in_v a 0 5000 w6
            go_wp2_with fail
            refine hou.mono ?_
            clear hou
            rintro e w7 ⟨rfl, rfl⟩
            generalize (decide (0 ≤ a) && decide (a ≤ 5000)) = O at *
            cases O with
            | false =>
              have HFF : Hid (F = 1) := Lib.hid (by
                have h2 := HE2.out
                rw [if_pos (by decide)] at h2
                rw [HST.out (by rw [h2]; decide), h2])
              go_wp2_with fail
              go_ret
              exact ⟨ret_int HFF.out.symm, HM6.out⟩
            | true =>
              have HG := Lib.hid (HNX.out (by
                have h2 := HE2.out
                rw [if_neg (by decide)] at h2
                exact h2))
              go_wp2_with fail
              go_roundw
              case rel => exact ⟨k + 1, by omega, by go_num, HG, HM6⟩
              case measure => simp [intOf]; omega
          · have hn1 : (nf != 0) = true := by simpa using hnf
            have HFF : Hid (F = nf) := Lib.hid (by
              have h2 := HE1.out
              rw [if_pos hnf] at h2
              rw [HST.out (by rw [h2]; exact hnf), h2])
            clear hnf
            go_wp2_with fail
            go_ret
            exact ⟨ret_int HFF.out.symm, HM6.out⟩
        | false =>
          have HFF : Hid (F = 3) := Lib.hid (by
            have h := HE.out
            rw [if_pos (by simp [hs0])] at h
            rw [HST.out (by rw [h]; decide), h])
          go_wp2_with fail
          go_ret
          exact ⟨ret_int HFF.out.symm, HM5.out⟩
    · obtain rfl : k = n := by omega
      have HFF : Hid (F = 0) := Lib.hid (by rw [HF.out, ← H0.out, List.take_of_length_le (by have := HL.out; omega)])
      go_wp2_with fail
      go_ret
      exact ⟨ret_int HFF.out.symm, HM.out⟩

end Go.Proofs.YtpgcbehpknghdaaGreatDoor
