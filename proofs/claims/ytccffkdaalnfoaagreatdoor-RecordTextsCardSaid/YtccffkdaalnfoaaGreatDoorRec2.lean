/- Records: the reference's check, walked (written by mkrec2.py out of XRec1). -/
import Derived.Test.YtccffkdaalnfoaaGreatDoorRec1
namespace Go.Proofs.YtccffkdaalnfoaaGreatDoor
open Go.RowKit
set_option linter.unusedVariables false
set_option linter.unusedSimpArgs false
set_option maxRecDepth 100000 in
set_option maxHeartbeats 4000000 in
theorem ref_recordsFault (rs : List RecD) (A : Option Addr) (n c : Nat) (w : World) (hl : RecRows w A n rs) (hn : n ≤ 1000000) (hs : ∀ r ∈ rs, RecShort r) :
    Calls Tryz.prog 7 #[.slice A n c] w fun e w' => e = .returned (.int .i64 (recsFault rs)) ∧ New w w' := by
  have hlen := hl.1
  by_cases h30 : 3000 < n
  · have h31 : (3000 : Int) < n := by omega
    go_enter Tryz.func7, Tryz.ntmps7
    go_wp2_with fail
    go_ret
    exact ⟨ret_int (by simp [recsFault, hlen, h30]), Mod.refl _ _⟩
  · have h31 : ¬ (3000 : Int) < n := by omega
    have HS := Lib.hid hs
    have HL := Lib.hid hl
    have HLEN := Lib.hid hlen
    have HN30 := Lib.hid h30
    have HRF : Hid (recsFault rs = firstFault (recAt rs) n) := Lib.hid (by unfold recsFault; rw [hlen, if_neg h30])
    clear hs hl hlen h30
    go_enter Tryz.func7, Tryz.ntmps7
    go_wp2_with fail
    go_loopw [12] (fun i wr => ∃ k : Nat, k ≤ n ∧ i = .int .i64 k ∧ Hid (firstFault (recAt rs) k = 0) ∧ Hid (New w wr)) (fun i _ => n - (intOf i).toNat)
    case atStart => exact ⟨0, Nat.zero_le _, rfl, Lib.hid rfl, Lib.hid (Mod.refl _ _)⟩
    case round =>
      rename World => wr
      obtain ⟨k, hk, rfl, H0, HM⟩ := hrel
      by_cases hlt : k < n
      · obtain ⟨g, o, hA, hg, hc⟩ := (HL.out.new HM.out).2 (by omega)
        subst hA
        have hkl : k < rs.length := by have := HLEN.out; omega
        have hgl := hg.lt
        have c0 := hc k hkl 0 (by omega)
        have c1 := hc k hkl 1 (by omega)
        have c2 := hc k hkl 2 (by omega)
        have c3 := hc k hkl 3 (by omega)
        have c4 := hc k hkl 4 (by omega)
        have c5 := hc k hkl 5 (by omega)
        have c6 := hc k hkl 6 (by omega)
        simp only [RecD.enc, Nat.add_zero] at c0 c1 c2 c3 c4 c5 c6
        have hb1 : (0 : Int) ≤ k := by omega
        have hb2 : (k : Int) < n := by omega
        have hsh := HS.out _ (List.getElem_mem hkl)
        have hprev : ∃ p : Int, (0 < k → rs[k-1]?.map (·.at_) = some p ∧ wr.cell? ⟨g, o + (k - 1) * 7, none⟩ = some (.int .i64 p)) := by
          by_cases h0 : 0 < k
          · refine ⟨rs[k-1].at_, fun _ => ⟨?_, ?_⟩⟩
            · rw [List.getElem?_eq_getElem (by omega)]; rfl
            · simpa [RecD.enc] using hc (k - 1) (by omega) 0 (by omega)
          · exact ⟨0, fun h => absurd h h0⟩
        obtain ⟨p, hp⟩ := hprev
        have HE := Lib.hid (recAt_eq (List.getElem?_eq_getElem hkl) p (fun h => (hp h).1))
        have HP := Lib.hid (fun h => (hp h).2)
        have HSTOP : Hid (∀ F : Int, recAt rs k = F → F ≠ 0 → recsFault rs = F) := Lib.hid (fun F h hne => by
          rw [HRF.out, firstFault_stop H0.out (by rw [h]; exact hne) hlt, h])
        have HNEXT : Hid (recAt rs k = 0 → firstFault (recAt rs) (k + 1) = 0) := Lib.hid (fun h => firstFault_zero H0.out h)
        clear hc hp
        generalize rs[k] = r at *
        clear hkl
        obtain ⟨at_, route, caller, act, inst, status, found⟩ := r
        simp only at c0 c1 c2 c3 c4 c5 c6
        obtain ⟨s1, s2, s3, s4⟩ := hsh
        simp only at s1 s2 s3 s4
        have bx := Blk.new wr 39 #[.int .i64 at_, .string route, .string caller, .string act, .string inst, .int .i64 status, .int .i64 found]
        have mx : New w (wr.alloc (.cells #[.int .i64 at_, .string route, .string caller, .string act, .string inst, .int .i64 status, .int .i64 found] 39)) := HM.out.alloc _
        have HPX : Hid (0 < k → (wr.alloc (.cells #[.int .i64 at_, .string route, .string caller, .string act, .string inst, .int .i64 status, .int .i64 found] 39)).cell? ⟨g, o + (k - 1) * 7, none⟩ = some (.int .i64 p)) := Lib.hid (fun h => (((Mod.refl (fun _ => False) wr).alloc _).cell (p := ⟨g, o + (k - 1) * 7, none⟩) hgl (fun e => e)).trans (HP.out h))
        go_upto_region 6 with (fail)
        have hgx : g < (wr.alloc (.cells #[.int .i64 at_, .string route, .string caller, .string act, .string inst, .int .i64 status, .int .i64 found] 39)).heap.size := by simp; omega
        generalize wr.alloc (.cells #[.int .i64 at_, .string route, .string caller, .string act, .string inst, .int .i64 status, .int .i64 found] 39) = wx at *
        clear c0 c1 c2 c3 c4 c5 c6
        have e0 := bx.cell 0
        have e1 := bx.cell 1
        have e2 := bx.cell 2
        have e3 := bx.cell 3
        have e4 := bx.cell 4
        have e5 := bx.cell 5
        have e6 := bx.cell 6
        have hel := bx.lt
        simp only [List.getElem?_toArray, List.getElem?_cons_zero, List.getElem?_cons_succ] at e0 e1 e2 e3 e4 e5 e6
        have HBX := Lib.hid bx
        have HMX := Lib.hid mx
        clear bx mx HP
        generalize wr.heap.size = xb at *
        go_wp2_with fail
        refine (ref_moment2 _ _).mono ?_
        rintro e w1 ⟨rfl, rfl⟩
        cases hm : isMoment at_ with
        | false =>
          have HF := Lib.hid (HSTOP.out 1 (by rw [HE.out]; simp [recSelf, hm]) (by decide))
          clear hm
          go_wp2_with fail
          go_ret
          exact ⟨ret_int HF.out.symm, HMX.out⟩
        | true =>
          have HMO := Lib.hid hm
          clear hm
          have hbn := Blk.new wx 9 (strCs [route, caller, act, inst])
          have hmn : New w (wx.alloc (.cells (strCs [route, caller, act, inst]) 9)) := HMX.out.alloc _
          have HNL : Hid ([route, caller, act, inst].any nameBad = true → recSelf ⟨at_, route, caller, act, inst, status, found⟩ = 5) := Lib.hid (fun h => by
            unfold recSelf
            rw [HMO.out, names_bad]
            simp only [recNames, h]
            rfl)
          have HNO : Hid ([route, caller, act, inst].any nameBad = false → recSelf ⟨at_, route, caller, act, inst, status, found⟩ = if !(decide (100 ≤ status) && decide (status ≤ 599)) || !(decide (0 ≤ found) && decide (found ≤ 4)) then 1 else 0) := Lib.hid (fun h => by
            unfold recSelf
            rw [HMO.out, names_bad]
            simp only [recNames, h]
            rfl)
          have HSZ : Hid (∀ x ∈ [route, caller, act, inst], x.size ≤ maxLen) := Lib.hid (fun x hx => by
            simp only [List.mem_cons, List.not_mem_nil, or_false] at hx
            rcases hx with rfl | rfl | rfl | rfl <;> assumption)
          have HBN := Lib.hid hbn
          have HMN := Lib.hid hmn
          have HBX2 := Lib.hid (HBX.out.mod ((Mod.refl (fun _ => False) wx).alloc (.cells (strCs [route, caller, act, inst]) 9)) (fun e => e))
          clear hbn hmn
          have HCS : Hid (strCs [route, caller, act, inst] = #[.string route, .string caller, .string act, .string inst]) := Lib.hid rfl
          rw [HCS.out] at HBN HMN HBX2
          go_wp2_with fail
          have hgn : g < (wx.alloc (.cells #[.string route, .string caller, .string act, .string inst] 9)).heap.size := by simp; omega
          have HPN : Hid (0 < k → (wx.alloc (.cells #[.string route, .string caller, .string act, .string inst] 9)).cell? ⟨g, o + (k - 1) * 7, none⟩ = some (.int .i64 p)) := Lib.hid (fun h => (((Mod.refl (fun _ => False) wx).alloc _).cell (p := ⟨g, o + (k - 1) * 7, none⟩) hgx (fun e => e)).trans (HPX.out h))
          generalize wx.alloc (.cells #[.string route, .string caller, .string act, .string inst] 9) = wn at *
          generalize wx.heap.size = nb at *
          generalize hNS : [route, caller, act, inst] = Ns at *
          have hNl : Ns.length = 4 := by rw [← hNS]; rfl
          have HNS := Lib.hid hNS
          have HNl := Lib.hid hNl
          rw [← HCS.out] at HBN
          clear hNS hNl e1 e2 e3 e4 s1 s2 s3 s4 HCS
          go_loopw [31] (fun i wq => ∃ j : Nat, j ≤ 4 ∧ i = .int .i64 j ∧ Hid ((Ns.take j).any nameBad = false) ∧ Hid (New wn wq)) (fun i _ => 4 - (intOf i).toNat)
          case atStart => exact ⟨0, by omega, rfl, Lib.hid rfl, Lib.hid (Mod.refl _ _)⟩
          case round =>
            rename World => wq
            obtain ⟨j, hj, rfl, HA, HMQ⟩ := hrel
            by_cases hj4 : j < 4
            · have hjn : j < Ns.length := by have := HNl.out; omega
              have hcell : wq.cell? ⟨nb, j, none⟩ = some (.string Ns[j]) := by
                have h1 := strs_at (HBN.out.mod HMQ.out (fun e => e)) j hjn
                rw [h1]
                congr 2
                rw [List.getD_eq_getElem?_getD, List.getElem?_eq_getElem hjn]
                rfl
              have hnl := (HBN.out.mod HMQ.out (fun e => e)).lt
              have hsz := HSZ.out Ns[j] (List.getElem_mem hjn)
              have HTK : Hid ((Ns.take (j + 1)).any nameBad = ((Ns.take j).any nameBad || nameBad Ns[j])) := Lib.hid (by
                rw [List.take_succ_eq_append_getElem hjn, List.any_append]; simp)
              have HBADN : Hid (nameBad Ns[j] = true → recsFault rs = 5) := Lib.hid (fun h => by
                have h5 := HNL.out (by rw [List.any_eq_true]; exact ⟨Ns[j], List.getElem_mem hjn, h⟩)
                exact HSTOP.out 5 (by rw [HE.out, h5]; simp) (by decide))
              have hj1 : (0 : Int) ≤ j := by omega
              have hj2 : (j : Int) < 4 := by omega
              generalize Ns[j] = s at *
              clear hjn
              by_cases hse : s = ⟨#[]⟩
              · have hse' : (s.toList == []) = true := by rw [str_nil]; simpa using hse
                have HG : Hid ((Ns.take (j + 1)).any nameBad = false) := Lib.hid (by rw [HTK.out, HA.out, hse]; rfl)
                clear hse
                go_wp2_with fail
                exact ⟨⟨j + 1, by omega, by go_num, HG, HMQ⟩, by simp [intOf]; omega⟩
              · have hse' : (s.toList == []) = false := by rw [str_nil]; simpa using hse
                have HSE := Lib.hid hse
                clear hse
                go_wp2_with fail
                refine (ref_key _ _ hsz).mono ?_
                rintro e w3 ⟨rfl, rfl⟩
                cases hk2 : isKey s with
                | false =>
                  have HF := Lib.hid (HBADN.out (by unfold nameBad; rw [hk2]; simpa using HSE.out))
                  clear hk2
                  go_wp2_with fail
                  go_ret
                  exact ⟨ret_int HF.out.symm, HMN.out.trans HMQ.out⟩
                | true =>
                  have HG : Hid ((Ns.take (j + 1)).any nameBad = false) := Lib.hid (by rw [HTK.out, HA.out]; unfold nameBad; rw [hk2]; simp)
                  clear hk2
                  go_wp2_with fail
                  exact ⟨⟨j + 1, by omega, by go_num, HG, HMQ⟩, by simp [intOf]; omega⟩
            · obtain rfl : j = 4 := by omega
              have HR := Lib.hid (HNO.out (by have h4 := HA.out; rwa [List.take_of_length_le (Nat.le_of_eq HNl.out)] at h4))
              have hbq := HBX2.out.mod HMQ.out (fun e => e)
              have f0 := hbq.cell 0
              have f5 := hbq.cell 5
              have f6 := hbq.cell 6
              have hml := hbq.lt
              simp only [List.getElem?_toArray, List.getElem?_cons_zero, List.getElem?_cons_succ] at f0 f5 f6
              have HMM := Lib.hid (HMN.out.trans HMQ.out)
              have hgq : g < wn.heap.size := hgn
              have HPQ : Hid (0 < k → wq.cell? ⟨g, o + (k - 1) * 7, none⟩ = some (.int .i64 p)) := Lib.hid (fun h => (HMQ.out.cell (p := ⟨g, o + (k - 1) * 7, none⟩) hgq (fun e => e)).trans (HPN.out h))
              clear hbq e5 e6
              go_wp2_with fail
              refine (ref1_in _ _ _ _).mono ?_
              rintro e w3 ⟨rfl, rfl⟩
              cases hq : (decide (100 ≤ status) && decide (status ≤ 599)) with
              | false =>
                have HF := Lib.hid (HSTOP.out 1 (by rw [HE.out, HR.out, hq]; simp) (by decide))
                clear hq
                go_wp2_with fail
                go_ret
                exact ⟨ret_int HF.out.symm, HMM.out⟩
              | true =>
                have HQ := Lib.hid hq
                clear hq
                go_wp2_with fail
                refine (ref1_in _ _ _ _).mono ?_
                rintro e w4 ⟨rfl, rfl⟩
                cases hq : (decide (0 ≤ found) && decide (found ≤ 4)) with
                | false =>
                  have HF := Lib.hid (HSTOP.out 1 (by rw [HE.out, HR.out, HQ.out, hq]; simp) (by decide))
                  clear hq
                  go_wp2_with fail
                  go_ret
                  exact ⟨ret_int HF.out.symm, HMM.out⟩
                | true =>
                  have HE2 : Hid (recAt rs k = if 0 < k ∧ at_ < p then 7 else 0) := Lib.hid (by rw [HE.out, HR.out, HQ.out, hq]; simp)
                  clear hq
                  by_cases h0 : 0 < k
                  · have hp2 := HPQ.out h0
                    have hb3 : (0 : Int) < k := by omega
                    have hb4 : (0 : Int) ≤ (k : Int) - 1 := by omega
                    have hb5 : (k : Int) - 1 < n := by omega
                    have H0K := Lib.hid h0
                    go_wp2_with fail
                    go_quiet (fail)
                    by_cases hle : at_ < p
                    · have HF := Lib.hid (HSTOP.out 7 (by rw [HE2.out, if_pos ⟨H0K.out, hle⟩]) (by decide))
                      go_wp2_with fail
                      go_ret
                      exact ⟨ret_int HF.out.symm, HMM.out.drewN _⟩
                    · have HG := Lib.hid (HNEXT.out (by rw [HE2.out, if_neg (fun h => hle h.2)]))
                      go_wp2_with fail
                      go_roundw
                      case rel => exact ⟨k + 1, by omega, by go_num, HG, Lib.hid (HMM.out.drewN _)⟩
                      case measure => simp [intOf]; omega
                  · obtain rfl : k = 0 := by omega
                    have hd : decide ((0 : Int) < ((0 : Nat) : Int)) = false := by simp
                    have HG := Lib.hid (HNEXT.out (by rw [HE2.out]; simp))
                    go_wp2_with fail
                    go_quiet (fail)
                    go_wp2_with fail
                    go_roundw
                    case rel => exact ⟨0 + 1, by omega, by go_num, HG, Lib.hid (HMM.out.drewN _)⟩
                    case measure => simp [intOf]; omega
      · obtain rfl : k = n := by omega
        go_wp2_with fail
        go_ret
        exact ⟨ret_int (by rw [HRF.out, H0.out]), HM.out⟩

end Go.Proofs.YtccffkdaalnfoaaGreatDoor
