/- Visits: checked by the program and by the reference. Conditions: a slice of visits that can be read. -/
import Derived.Test.YtinnckbffblecaaGreatSpreadLaw4
namespace Go.Proofs.YtinnckbffblecaaGreat
open Go.RowKit
set_option linter.unusedVariables false
set_option linter.unusedSimpArgs false

def VisD.val (a : VisD) : Value := .agg #[.int .i64 a.at_, .string a.gate, .int .i64 a.cost]
def VisD.enc (a : VisD) : Nat → Value
  | 0 => .int .i64 a.at_
  | 1 => .string a.gate
  | 2 => .int .i64 a.cost
  | _ => .nilFunc
abbrev VisRows (w : World) (A : Option Addr) (n : Nat) (l : List VisD) : Prop := Sl w 76 3 VisD.enc A n l
theorem einfo_visit : EInfo Tryz.prog 76 3 32 := EInfo.of (z := .agg #[.int .i64 0, .string ⟨#[]⟩, .int .i64 0]) (by kernel_rfl) rfl (by decide)
theorem VisD.one (v : VisD) (j : Nat) (hj : j < 3) : (v.enc j).oneCell' = true := by
  obtain rfl | rfl | rfl : j = 0 ∨ j = 1 ∨ j = 2 := by omega
  all_goals rfl

set_option maxHeartbeats 2000000 in
theorem limit_checkVisits (ls : List VisD) (A : Option Addr) (n c : Nat) (w : World) (hl : VisRows w A n ls) (hn : n ≤ 1000000) (hs : ∀ a ∈ ls, a.gate.size ≤ maxLen) :
    Calls Tryz.prog 13 #[.slice A n c] w fun e w' => e = .returned (.int .i64 (visitsFault ls)) ∧ New w w' := by
  have hlen := hl.1
  by_cases h20 : 3000 < n
  · have h21 : (3000 : Int) < n := by omega
    go_enter Tryz.func13, Tryz.ntmps13
    go_wp2_with fail
    go_ret
    exact ⟨ret_int (by simp [visitsFault, hlen, h20]), Mod.refl _ _⟩
  · have h21 : ¬ (3000 : Int) < n := by omega
    have HS := Lib.hid hs
    clear hs
    go_enter Tryz.func13, Tryz.ntmps13
    go_wp2_with fail
    go_loopw [3, 4, 10, 15, 20, 25, 29] (fun _ _ i _ _ _ _ wr => ∃ k : Nat, k ≤ n ∧ i = .int .i64 k ∧ firstFault (visAt ls) k = 0 ∧ New w wr) (fun _ _ i _ _ _ _ _ => n - (intOf i).toNat)
    case atStart => exact ⟨0, Nat.zero_le _, rfl, rfl, Mod.refl _ _⟩
    case round =>
      obtain ⟨k, hk, rfl, h0, hm⟩ := hrel
      have H0 := Lib.hid h0
      clear h0
      by_cases hlt : k < n
      · obtain ⟨g, o, rfl, hg, hc⟩ := (hl.new hm).2 (by omega)
        have hgl := hg.lt
        have hx : ls[k]? = some ls[k] := by simp
        have c0 := hc k (by omega) 0 (by omega)
        have c1 := hc k (by omega) 1 (by omega)
        have c2 := hc k (by omega) 2 (by omega)
        simp only [VisD.enc, Nat.add_zero] at c0 c1 c2
        have hb1 : (0 : Int) ≤ k := by omega
        have hb2 : (k : Int) < n := by omega
        have hks : ls[k].gate.size ≤ maxLen := HS.out _ (List.getElem_mem _)
        have hprev : ∃ p : Int, (0 < k → ls[k-1]?.map (·.at_) = some p ∧ wr.cell? ⟨g, o + (k - 1) * 3, none⟩ = some (.int .i64 p)) := by
          by_cases h0 : 0 < k
          · refine ⟨ls[k-1].at_, fun _ => ⟨?_, ?_⟩⟩
            · rw [List.getElem?_eq_getElem (by omega)]; rfl
            · simpa [VisD.enc] using hc (k - 1) (by omega) 0 (by omega)
          · exact ⟨0, fun h => absurd h h0⟩
        obtain ⟨p, hp⟩ := hprev
        have HE := Lib.hid (visAt_eq hx p (fun h => (hp h).1))
        clear hc hx
        generalize ls[k] = a at *
        obtain ⟨at_, gate, cost⟩ := a
        simp only at c0 c1 c2 hks
        have hm3 := hm.alloc (.cells #[.int .i64 at_, .string gate, .int .i64 cost] 76)
        go_wp2_with fail
        refine (kit_isMoment _ _).mono ?_
        rintro e w1 ⟨rfl, rfl⟩
        cases hmo : isMoment at_
        · go_wp2_with fail
          go_ret
          have hl5 : visAt ls k = 1 := by rw [HE.out]; simp [visSelf, hmo]
          exact ⟨ret_int (by simp only [visitsFault, hlen]; rw [if_neg h20, firstFault_stop H0.out (by omega) hlt, hl5]), hm3⟩
        · go_wp2_with fail
          refine (kit_isKey _ _ hks).mono ?_
          rintro e w1 ⟨rfl, rfl⟩
          cases hkk : isKey gate
          · go_wp2_with fail
            go_ret
            have hl5 : visAt ls k = 5 := by rw [HE.out]; simp [visSelf, hmo, hkk]
            exact ⟨ret_int (by simp only [visitsFault, hlen]; rw [if_neg h20, firstFault_stop H0.out (by omega) hlt, hl5]), hm3⟩
          · go_wp2_with fail
            refine (outside_any _ _ _ _).mono ?_
            rintro e w1 ⟨rfl, rfl⟩
            cases hco : (decide (1 ≤ cost) && decide (cost ≤ 1000000000))
            · go_wp2_with fail
              go_ret
              have hl5 : visAt ls k = 1 := by rw [HE.out]; simp only [visSelf, hmo, hkk, hco]; simp
              exact ⟨ret_int (by simp only [visitsFault, hlen]; rw [if_neg h20, firstFault_stop H0.out (by omega) hlt, hl5]), hm3⟩
            · have hf : visSelf ⟨at_, gate, cost⟩ = 0 := by simp only [visSelf, hmo, hkk, hco]; simp
              have HF := Lib.hid hf
              clear hf hco hkk hmo
              by_cases h0 : 0 < k
              · obtain ⟨hp1, hp2⟩ := hp h0
                have hb3 : (0 : Int) < k := by omega
                have hb4 : (0 : Int) ≤ (k : Int) - 1 := by omega
                have hb5 : (k : Int) - 1 < n := by omega
                clear hp hp1
                go_wp2_with fail
                go_quiet (fail)
                by_cases hle : at_ < p
                · go_wp2_with fail
                  go_ret
                  have hl5 : visAt ls k = 7 := by rw [HE.out, HF.out]; simp; omega
                  exact ⟨ret_int (by simp only [visitsFault, hlen]; rw [if_neg h20, firstFault_stop H0.out (by omega) hlt, hl5]), hm3.drewN _⟩
                · go_wp2_with fail
                  go_roundw
                  case rel => exact ⟨k + 1, by omega, by go_num, firstFault_zero H0.out (by rw [HE.out, HF.out]; simp; omega), hm3.drewN _⟩
                  case measure => simp [intOf]; omega
              · obtain rfl : k = 0 := by omega
                have hd : decide ((0 : Int) < ((0 : Nat) : Int)) = false := by simp
                go_wp2_with fail
                go_quiet (fail)
                go_wp2_with fail
                go_roundw
                case rel => exact ⟨0 + 1, by omega, by go_num, firstFault_zero H0.out (by rw [HE.out, HF.out]; simp), hm3.drewN _⟩
                case measure => simp [intOf]; omega
      · obtain rfl : k = n := by omega
        go_wp2_with fail
        go_ret
        exact ⟨ret_int (by simp only [visitsFault, hlen]; rw [if_neg h20, H0.out]), hm⟩

set_option maxHeartbeats 2000000 in
theorem ref_visitsFault (ls : List VisD) (A : Option Addr) (n c : Nat) (w : World) (hl : VisRows w A n ls) (hn : n ≤ 1000000) (hs : ∀ a ∈ ls, a.gate.size ≤ maxLen) :
    Calls Tryz.prog 14 #[.slice A n c] w fun e w' => e = .returned (.int .i64 (visitsFault ls)) ∧ New w w' := by
  have hlen := hl.1
  by_cases h20 : 3000 < n
  · have h21 : (3000 : Int) < n := by omega
    go_enter Tryz.func14, Tryz.ntmps14
    go_wp2_with fail
    go_ret
    exact ⟨ret_int (by simp [visitsFault, hlen, h20]), Mod.refl _ _⟩
  · have h21 : ¬ (3000 : Int) < n := by omega
    have HS := Lib.hid hs
    clear hs
    go_enter Tryz.func14, Tryz.ntmps14
    go_wp2_with fail
    go_loopw [3, 4, 10, 15, 20, 25, 30] (fun _ _ i _ _ _ _ wr => ∃ k : Nat, k ≤ n ∧ i = .int .i64 k ∧ firstFault (visAt ls) k = 0 ∧ New w wr) (fun _ _ i _ _ _ _ _ => n - (intOf i).toNat)
    case atStart => exact ⟨0, Nat.zero_le _, rfl, rfl, Mod.refl _ _⟩
    case round =>
      obtain ⟨k, hk, rfl, h0, hm⟩ := hrel
      have H0 := Lib.hid h0
      clear h0
      by_cases hlt : k < n
      · obtain ⟨g, o, rfl, hg, hc⟩ := (hl.new hm).2 (by omega)
        have hgl := hg.lt
        have hx : ls[k]? = some ls[k] := by simp
        have c0 := hc k (by omega) 0 (by omega)
        have c1 := hc k (by omega) 1 (by omega)
        have c2 := hc k (by omega) 2 (by omega)
        simp only [VisD.enc, Nat.add_zero] at c0 c1 c2
        have hb1 : (0 : Int) ≤ k := by omega
        have hb2 : (k : Int) < n := by omega
        have hks : ls[k].gate.size ≤ maxLen := HS.out _ (List.getElem_mem _)
        have hprev : ∃ p : Int, (0 < k → ls[k-1]?.map (·.at_) = some p ∧ wr.cell? ⟨g, o + (k - 1) * 3, none⟩ = some (.int .i64 p)) := by
          by_cases h0 : 0 < k
          · refine ⟨ls[k-1].at_, fun _ => ⟨?_, ?_⟩⟩
            · rw [List.getElem?_eq_getElem (by omega)]; rfl
            · simpa [VisD.enc] using hc (k - 1) (by omega) 0 (by omega)
          · exact ⟨0, fun h => absurd h h0⟩
        obtain ⟨p, hp⟩ := hprev
        have HE := Lib.hid (visAt_eq hx p (fun h => (hp h).1))
        clear hc hx
        generalize ls[k] = a at *
        obtain ⟨at_, gate, cost⟩ := a
        simp only at c0 c1 c2 hks
        have hm3 := hm.alloc (.cells #[.int .i64 at_, .string gate, .int .i64 cost] 76)
        go_wp2_with fail
        refine (ref_moment _ _).mono ?_
        rintro e w1 ⟨rfl, rfl⟩
        cases hmo : isMoment at_
        · go_wp2_with fail
          go_ret
          have hl5 : visAt ls k = 1 := by rw [HE.out]; simp [visSelf, hmo]
          exact ⟨ret_int (by simp only [visitsFault, hlen]; rw [if_neg h20, firstFault_stop H0.out (by omega) hlt, hl5]), hm3⟩
        · go_wp2_with fail
          refine (ref_key _ _ hks).mono ?_
          rintro e w1 ⟨rfl, rfl⟩
          cases hkk : isKey gate
          · go_wp2_with fail
            go_ret
            have hl5 : visAt ls k = 5 := by rw [HE.out]; simp [visSelf, hmo, hkk]
            exact ⟨ret_int (by simp only [visitsFault, hlen]; rw [if_neg h20, firstFault_stop H0.out (by omega) hlt, hl5]), hm3⟩
          · go_wp2_with fail
            refine (ref1_in _ _ _ _).mono ?_
            rintro e w1 ⟨rfl, rfl⟩
            cases hco : (decide (1 ≤ cost) && decide (cost ≤ 1000000000))
            · go_wp2_with fail
              go_ret
              have hl5 : visAt ls k = 1 := by rw [HE.out]; simp only [visSelf, hmo, hkk, hco]; simp
              exact ⟨ret_int (by simp only [visitsFault, hlen]; rw [if_neg h20, firstFault_stop H0.out (by omega) hlt, hl5]), hm3⟩
            · have hf : visSelf ⟨at_, gate, cost⟩ = 0 := by simp only [visSelf, hmo, hkk, hco]; simp
              have HF := Lib.hid hf
              clear hf hco hkk hmo
              by_cases h0 : 0 < k
              · obtain ⟨hp1, hp2⟩ := hp h0
                have hb3 : (0 : Int) < k := by omega
                have hb4 : (0 : Int) ≤ (k : Int) - 1 := by omega
                have hb5 : (k : Int) - 1 < n := by omega
                clear hp hp1
                go_wp2_with fail
                go_quiet (fail)
                by_cases hle : at_ < p
                · go_wp2_with fail
                  go_ret
                  have hl5 : visAt ls k = 7 := by rw [HE.out, HF.out]; simp; omega
                  exact ⟨ret_int (by simp only [visitsFault, hlen]; rw [if_neg h20, firstFault_stop H0.out (by omega) hlt, hl5]), hm3.drewN _⟩
                · go_wp2_with fail
                  go_roundw
                  case rel => exact ⟨k + 1, by omega, by go_num, firstFault_zero H0.out (by rw [HE.out, HF.out]; simp; omega), hm3.drewN _⟩
                  case measure => simp [intOf]; omega
              · obtain rfl : k = 0 := by omega
                have hd : decide ((0 : Int) < ((0 : Nat) : Int)) = false := by simp
                go_wp2_with fail
                go_quiet (fail)
                go_wp2_with fail
                go_roundw
                case rel => exact ⟨0 + 1, by omega, by go_num, firstFault_zero H0.out (by rw [HE.out, HF.out]; simp), hm3.drewN _⟩
                case measure => simp [intOf]; omega
      · obtain rfl : k = n := by omega
        go_wp2_with fail
        go_ret
        exact ⟨ret_int (by simp only [visitsFault, hlen]; rw [if_neg h20, H0.out]), hm⟩

end Go.Proofs.YtinnckbffblecaaGreat
