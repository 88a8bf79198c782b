/- Asks: the program's checks. Conditions: the names are no longer than an int can count. -/
import Derived.Test.YtinnckbffblecaaGreatDoorLimits
namespace Go.Proofs.YtinnckbffblecaaGreatDoor
open Go.RowKit
set_option linter.unusedVariables false
set_option linter.unusedSimpArgs false

structure AskD where
  at_ : Int
  who : ByteArray
  cost : Int
  long : Int
def AskD.val (a : AskD) : Value := .agg #[.int .i64 a.at_, .string a.who, .int .i64 a.cost, .int .i64 a.long]
def AskD.enc (a : AskD) : Nat → Value
  | 0 => .int .i64 a.at_
  | 1 => .string a.who
  | 2 => .int .i64 a.cost
  | 3 => .int .i64 a.long
  | _ => .nilFunc
abbrev AskRows (w : World) (A : Option Addr) (n : Nat) (l : List AskD) : Prop := Sl w 76 4 AskD.enc A n l

def isMoment (n : Int) : Bool := decide (0 ≤ n) && decide (n < 345686400000)
def askFault (a : AskD) : Int :=
  if !isMoment a.at_ then 1 else if !isKey a.who then 5 else
  if !(decide (1 ≤ a.cost) && decide (a.cost ≤ 1000000000)) || !(decide (0 ≤ a.long) && decide (a.long ≤ 345686400000)) then 1 else 0

theorem kit_isMoment (n : Int) (w : World) :
    Calls Tryz.prog 91 #[.int .i64 n] w fun e w' => e = .returned (.bool (isMoment n)) ∧ w = w' := by
  by_cases h : 0 ≤ n
  · go_enter Tryz.func91, Tryz.ntmps91
    go_wp2
    go_ret
    exact ⟨ret_bool (by simp [isMoment, h]), rfl⟩
  · have h' : decide (0 ≤ n) = false := by simpa using h
    go_enter Tryz.func91, Tryz.ntmps91
    go_wp2
    go_ret
    exact ⟨ret_bool (by simp [isMoment, h']), rfl⟩

set_option maxHeartbeats 1000000 in
theorem limit_askFault (a : AskD) (w : World) (hs : a.who.size ≤ maxLen) :
    Calls Tryz.prog 70 #[a.val] w fun e w' => e = .returned (.int .i64 (askFault a)) ∧ New w w' := by
  obtain ⟨at_, who, cost, long⟩ := a
  simp only [AskD.val]
  go_enter Tryz.func70, Tryz.ntmps70
  go_wp2_with fail
  refine (kit_isMoment _ _).mono ?_
  rintro e w1 ⟨rfl, rfl⟩
  cases hm : isMoment at_
  · go_wp2_with fail
    go_ret
    exact ⟨ret_int (by simp [askFault, hm]), (by with_reducible (repeat (first | exact Mod.refl _ _ | refine Mod.drewN ?_ _ | refine Mod.drew ?_ | refine Mod.alloc ?_ _)))⟩
  · go_wp2_with fail
    refine (kit_isKey _ _ hs).mono ?_
    rintro e w1 ⟨rfl, rfl⟩
    cases hk : isKey who
    · go_wp2_with fail
      go_ret
      exact ⟨ret_int (by simp [askFault, hm, hk]), (by with_reducible (repeat (first | exact Mod.refl _ _ | refine Mod.drewN ?_ _ | refine Mod.drew ?_ | refine Mod.alloc ?_ _)))⟩
    · go_wp2_with fail
      refine (outside_any _ _ _ _).mono ?_
      rintro e w1 ⟨rfl, rfl⟩
      cases hc : (decide (1 ≤ cost) && decide (cost ≤ 1000000000))
      · go_wp2_with fail
        go_ret
        exact ⟨ret_int (by simp only [askFault, hm, hk, hc]; simp), (by with_reducible (repeat (first | exact Mod.refl _ _ | refine Mod.drewN ?_ _ | refine Mod.drew ?_ | refine Mod.alloc ?_ _)))⟩
      · go_wp2_with fail
        refine (outside_any _ _ _ _).mono ?_
        rintro e w1 ⟨rfl, rfl⟩
        cases hl : (decide (0 ≤ long) && decide (long ≤ 345686400000))
        · go_wp2_with fail
          go_ret
          exact ⟨ret_int (by simp only [askFault, hm, hk, hc, hl]; simp), (by with_reducible (repeat (first | exact Mod.refl _ _ | refine Mod.drewN ?_ _ | refine Mod.drew ?_ | refine Mod.alloc ?_ _)))⟩
        · go_wp2_with fail
          go_ret
          exact ⟨ret_int (by simp only [askFault, hm, hk, hc, hl]; simp), (by with_reducible (repeat (first | exact Mod.refl _ _ | refine Mod.drewN ?_ _ | refine Mod.drew ?_ | refine Mod.alloc ?_ _)))⟩

def askAt (l : List AskD) (i : Nat) : Int :=
  match l[i]? with
  | none => 0
  | some a => if askFault a ≠ 0 then askFault a else if 0 < i ∧ a.at_ < (l[i-1]?.map (·.at_)).getD 0 then 7 else 0
def asksFault (l : List AskD) : Int := if 3000 < l.length then 2 else firstFault (askAt l) l.length
theorem askAt_eq {ls : List AskD} {i : Nat} {a : AskD} (h : ls[i]? = some a) (p : Int) (hp : 0 < i → ls[i-1]?.map (·.at_) = some p) :
    askAt ls i = if askFault a ≠ 0 then askFault a else if 0 < i ∧ a.at_ < p then 7 else 0 := by
  unfold askAt
  rw [h]
  by_cases hi : 0 < i
  · simp [hp hi]
  · simp [hi]

set_option maxHeartbeats 2000000 in
theorem limit_checkAsks (ls : List AskD) (A : Option Addr) (n c : Nat) (w : World) (hl : AskRows w A n ls) (hn : n ≤ 1000000) (hs : ∀ a ∈ ls, a.who.size ≤ maxLen) :
    Calls Tryz.prog 53 #[.slice A n c] w fun e w' => e = .returned (.int .i64 (asksFault ls)) ∧ New w w' := by
  have hlen := hl.1
  by_cases h20 : 3000 < n
  · have h21 : (3000 : Int) < n := by omega
    go_enter Tryz.func53, Tryz.ntmps53
    go_wp2_with fail
    go_ret
    exact ⟨ret_int (by simp [asksFault, hlen, h20]), Mod.refl _ _⟩
  · have h21 : ¬ (3000 : Int) < n := by omega
    have HS := Lib.hid hs
    clear hs
    go_enter Tryz.func53, Tryz.ntmps53
    go_wp2_with fail
    go_loopw [3, 4, 5, 11] (fun _ _ _ i wr => ∃ k : Nat, k ≤ n ∧ i = .int .i64 k ∧ firstFault (askAt ls) k = 0 ∧ New w wr) (fun _ _ _ i _ => n - (intOf i).toNat)
    case atStart => exact ⟨0, Nat.zero_le _, rfl, rfl, Mod.refl _ _⟩
    case round =>
      obtain ⟨k, hk, rfl, h0, hm⟩ := hrel
      have H0 := Lib.hid h0
      clear h0
      by_cases hlt : k < n
      · obtain ⟨g, o, rfl, hg, hc⟩ := (hl.new hm).2 (by omega)
        have hgl := hg.lt
        have hx : ls[k]? = some ls[k] := by simp
        have c0 := hc k (by omega) 0 (by omega)
        have c1 := hc k (by omega) 1 (by omega)
        have c2 := hc k (by omega) 2 (by omega)
        have c3 := hc k (by omega) 3 (by omega)
        simp only [AskD.enc, Nat.add_zero] at c0 c1 c2 c3
        have hb1 : (0 : Int) ≤ k := by omega
        have hb2 : (k : Int) < n := by omega
        have hks : ls[k].who.size ≤ maxLen := HS.out _ (List.getElem_mem _)
        have hprev : ∃ p : Int, (0 < k → ls[k-1]?.map (·.at_) = some p ∧ wr.cell? ⟨g, o + (k - 1) * 4, none⟩ = some (.int .i64 p)) := by
          by_cases h0 : 0 < k
          · refine ⟨ls[k-1].at_, fun _ => ⟨?_, ?_⟩⟩
            · rw [List.getElem?_eq_getElem (by omega)]; rfl
            · simpa [AskD.enc] using hc (k - 1) (by omega) 0 (by omega)
          · exact ⟨0, fun h => absurd h h0⟩
        obtain ⟨p, hp⟩ := hprev
        have HE := Lib.hid (askAt_eq hx p (fun h => (hp h).1))
        clear hc hx
        generalize ls[k] = a at *
        obtain ⟨at_, who, cost, long⟩ := a
        simp only at c0 c1 c2 c3 hks
        go_wp2_with fail
        refine (limit_askFault ⟨at_, who, cost, long⟩ _ hks).mono ?_
        rintro e w1 ⟨rfl, hm1⟩
        obtain ⟨hm2, hz2, nb⟩ := hm1.pre
        have B1 : Blk w1 wr.heap.size 76 _ := nb (fun h => h)
        have cb := B1.cell 0
        simp at cb
        have hm3 := hm.trans hm2
        clear nb
        by_cases hf : askFault ⟨at_, who, cost, long⟩ = 0
        · have hf' : (askFault ⟨at_, who, cost, long⟩ != 0) = false := by simp [hf]
          have HF := Lib.hid hf
          clear hf
          by_cases h0 : 0 < k
          · obtain ⟨hp1, hp2⟩ := hp h0
            have hp2 := (hm2.cell (p := ⟨g, o + (k - 1) * 4, none⟩) hgl (fun h => h)).trans hp2
            have hb3 : (0 : Int) < k := by omega
            have hb4 : (0 : Int) ≤ (k : Int) - 1 := by omega
            have hb5 : (k : Int) - 1 < n := by omega
            clear hp hp1
            go_wp2_with fail
            go_quiet (fail)
            by_cases hle : at_ < p
            · go_wp2_with fail
              go_ret
              have hl5 : askAt ls k = 7 := by rw [HE.out, HF.out]; simp; omega
              exact ⟨ret_int (by simp only [asksFault, hlen]; rw [if_neg h20, firstFault_stop H0.out (by omega) hlt, hl5]), hm3.drewN _⟩
            · go_wp2_with fail
              go_roundw
              case rel => exact ⟨k + 1, by omega, by go_num, firstFault_zero H0.out (by rw [HE.out, HF.out]; simp; omega), hm3.drewN _⟩
              case measure => simp [intOf]; omega
          · obtain rfl : k = 0 := by omega
            have hd : decide ((0 : Int) < ((0 : Nat) : Int)) = false := by simp
            go_wp2_with fail
            go_quiet (fail)
            go_wp2_with fail
            go_roundw
            case rel => exact ⟨0 + 1, by omega, by go_num, firstFault_zero H0.out (by rw [HE.out, HF.out]; simp), hm3.drewN _⟩
            case measure => simp [intOf]; omega
        · have hf' : (askFault ⟨at_, who, cost, long⟩ != 0) = true := by simp [hf]
          have HF := Lib.hid hf
          clear hf
          go_wp2_with fail
          go_ret
          have hl5 : askAt ls k = askFault ⟨at_, who, cost, long⟩ := by rw [HE.out, if_pos HF.out]
          exact ⟨ret_int (by simp only [asksFault, hlen]; rw [if_neg h20, firstFault_stop H0.out (by rw [hl5]; exact HF.out) hlt, hl5]), hm3⟩
      · obtain rfl : k = n := by omega
        go_wp2_with fail
        go_ret
        exact ⟨ret_int (by simp only [asksFault, hlen]; rw [if_neg h20, H0.out]), hm⟩

end Go.Proofs.YtinnckbffblecaaGreatDoor
