/- Several texts in one. (1) Trimming, and sets of bytes: the plain law. No conditions. (2) Bytes and words: the program's tests of bytes (packages value and message). Conditions: strings no longer than an int can count. -/
import Derived.Test.YtnbcfpjalgfikaaGreatDoorTplLaw
import Derived.Lib.SlTrimSet
import Derived.Lib.Bytealg
import Derived.BigGuardPart

namespace Go.Proofs.YtnbcfpjalgfikaaGreatDoor
open Go.RowKit
set_option linter.unusedVariables false
set_option linter.unusedSimpArgs false

theorem dropW_nil (p : UInt8 → Bool) : ∀ l : List UInt8, l.dropWhile p = [] ↔ ∀ c ∈ l, p c = true
  | [] => by simp
  | a :: l => by
    rw [List.dropWhile_cons]
    cases h : p a
    · simp only [Bool.false_eq_true, if_false]
      exact ⟨fun e => absurd e (by simp), fun e => by have := e a (by simp); rw [h] at this; cases this⟩
    · simp only [if_true]
      rw [dropW_nil p l]
      simp [h]
theorem dropW_rest (p : UInt8 → Bool) : ∀ (l : List UInt8) (c : UInt8), c ∈ l → p c = true ∨ c ∈ l.dropWhile p
  | [], c, h => by simp at h
  | a :: l, c, h => by
    rw [List.dropWhile_cons]
    cases hp : p a
    · simp only [Bool.false_eq_true, if_false]; exact .inr h
    · simp only [if_true]
      rcases List.mem_cons.1 h with rfl | h
      · exact .inl hp
      · exact dropW_rest p l c h
theorem dropW_sub (p : UInt8 → Bool) : ∀ (l : List UInt8) (c : UInt8), c ∈ l.dropWhile p → c ∈ l
  | [], c, h => by simp at h
  | a :: l, c, h => by
    rw [List.dropWhile_cons] at h
    cases hp : p a <;> rw [hp] at h
    · simpa using h
    · exact List.mem_cons_of_mem _ (dropW_sub p l c (by simpa using h))
theorem trimS_nil (l cs : List UInt8) : Lib.trimS l cs = [] ↔ ∀ c ∈ l, cs.contains c = true := by
  unfold Lib.trimS Lib.trimLeftS Lib.trimRightS
  rw [dropW_nil]
  constructor
  · intro h c hc
    rcases dropW_rest (cs.contains ·) l.reverse c (List.mem_reverse.2 hc) with h1 | h1
    · exact h1
    · exact h c (List.mem_reverse.2 h1)
  · intro h c hc
    exact h c (List.mem_reverse.1 (dropW_sub _ _ _ (List.mem_reverse.1 hc)))
theorem byteOf {p : UInt8 → Prop} (h : ∀ n, n < 256 → p (UInt8.ofNat n)) (c : UInt8) : p c := by
  have := h c.toNat (by have := c.toNat_lt; simpa using this)
  simpa using this

/-- the letters and _ -/
def letsB : ByteArray := ⟨#[97, 98, 99, 100, 101, 102, 103, 104, 105, 106, 107, 108, 109, 110, 111, 112, 113, 114, 115, 116, 117, 118, 119, 120, 121, 122, 65, 66, 67, 68, 69, 70, 71, 72, 73, 74, 75, 76, 77, 78, 79, 80, 81, 82, 83, 84, 85, 86, 87, 88, 89, 90, 95]⟩
/-- letters, _ and digits -/
def wrdsB : ByteArray := ⟨#[97, 98, 99, 100, 101, 102, 103, 104, 105, 106, 107, 108, 109, 110, 111, 112, 113, 114, 115, 116, 117, 118, 119, 120, 121, 122, 65, 66, 67, 68, 69, 70, 71, 72, 73, 74, 75, 76, 77, 78, 79, 80, 81, 82, 83, 84, 85, 86, 87, 88, 89, 90, 95, 48, 49, 50, 51, 52, 53, 54, 55, 56, 57]⟩
/-- the hexadecimal digits -/
def hexsB : ByteArray := ⟨#[48, 49, 50, 51, 52, 53, 54, 55, 56, 57, 97, 98, 99, 100, 101, 102, 65, 66, 67, 68, 69, 70]⟩
theorem wrds_at (c : UInt8) : wrdsB.data.toList.contains c = isWrdN c.toNat := by
  revert c
  apply byteOf
  decide +kernel
theorem lets_at (c : UInt8) : decide (0 ≤ Lib.indexByte letsB.data.toList c) = (isLetN c.toNat || decide (c.toNat = 95)) := by
  revert c
  apply byteOf
  decide +kernel
theorem hexs_at (c : UInt8) : hexsB.data.toList.contains c = isHexN c.toNat := by
  revert c
  apply byteOf
  decide +kernel
theorem trim_word (l : List UInt8) : Lib.trimS l wrdsB.data.toList = [] ↔ l.all (fun c => isWrdN c.toNat) = true := by
  rw [trimS_nil, List.all_eq_true]
  exact ⟨fun h c hc => by rw [← wrds_at]; exact h c hc, fun h c hc => by rw [wrds_at]; exact h c hc⟩
theorem trim_hex (l : List UInt8) : Lib.trimS l hexsB.data.toList = [] ↔ l.all (fun c => isHexN c.toNat) = true := by
  rw [trimS_nil, List.all_eq_true]
  exact ⟨fun h c hc => by rw [← hexs_at]; exact h c hc, fun h c hc => by rw [hexs_at]; exact h c hc⟩
/-- a word's head is a letter or _, where the rest is letters, digits and _ -/
theorem plainRow_eq {c : UInt8} {r : List UInt8} : plainRow (c :: r) = ((c :: r).all (fun c => isWrdN c.toNat) && (isLetN c.toNat || decide (c.toNat = 95))) := by
  unfold plainRow
  simp only [ne_eq, reduceCtorEq, not_false_eq_true, decide_true, Bool.true_and, List.head?_cons, Option.map_some, Option.getD_some]
  cases h : (c :: r).all (fun c => isWrdN c.toNat)
  · rfl
  · simp only [Bool.true_and]
    simp only [List.all_cons, Bool.and_eq_true] at h
    have h1 := h.1
    simp only [isWrdN, isLetN, isDigN, Bool.or_eq_true, Bool.and_eq_true, decide_eq_true_eq] at h1
    rw [Bool.eq_iff_iff]
    simp only [isLetN, isDigN, Bool.or_eq_true, Bool.and_eq_true, decide_eq_true_eq, Bool.not_eq_true', Bool.and_eq_false_iff, decide_eq_false_iff_not]
    omega
theorem all_take {p : UInt8 → Bool} {s : List UInt8} {k : Nat} (h : k < s.length) : (s.take (k + 1)).all p = ((s.take k).all p && p s[k]) := by
  rw [List.take_succ_eq_append_getElem h, List.all_append]
  simp
theorem all_stop {p : UInt8 → Bool} {s : List UInt8} {k : Nat} (h : k < s.length) (hp : p s[k] = false) : s.all p = false := by
  rw [List.all_eq_false]
  exact ⟨s[k], List.getElem_mem h, by rw [hp]; decide⟩
theorem any_take {p : UInt8 → Bool} {s : List UInt8} {k : Nat} (h : k < s.length) : (s.take (k + 1)).any p = ((s.take k).any p || p s[k]) := by
  rw [List.take_succ_eq_append_getElem h, List.any_append]
  simp
theorem any_stop {p : UInt8 → Bool} {s : List UInt8} {k : Nat} (h : k < s.length) (hp : p s[k] = true) : s.any p = true := by
  rw [List.any_eq_true]
  exact ⟨s[k], List.getElem_mem h, hp⟩

end Go.Proofs.YtnbcfpjalgfikaaGreatDoor

namespace Go.Proofs.YtnbcfpjalgfikaaGreatDoor
open Go.RowKit
set_option linter.unusedVariables false
set_option linter.unusedSimpArgs false

section
set_option maxHeartbeats 1000000
theorem val_isLetter (c : Nat) (w : World) : Calls Tryz.prog 206 #[.int .u8 (c : Int)] w fun e w' => e = .returned (.bool (isLetN c)) ∧ w = w' := by
  go_enter Tryz.func206, Tryz.ntmps206
  go_wp2
  all_goals go_ret
  all_goals (refine ⟨ret_bool ?_, rfl⟩)
  all_goals (try simp only [Bool.not_eq_true', beq_eq_false_iff_ne, Bool.not_eq_false', beq_iff_eq, decide_eq_true_eq, decide_eq_false_iff_not] at *)
  all_goals (rw [Bool.eq_iff_iff]; simp only [isLetN, isDigN, isHexN, isWrdN, freeN, Bool.or_eq_true, Bool.and_eq_true, decide_eq_true_eq, Bool.false_eq_true, false_iff, true_iff, iff_true, iff_false, false_or, or_false, not_false_eq_true, not_true_eq_false])
  all_goals omega
theorem val_isDigit (c : Nat) (w : World) : Calls Tryz.prog 195 #[.int .u8 (c : Int)] w fun e w' => e = .returned (.bool (isDigN c)) ∧ w = w' := by
  go_enter Tryz.func195, Tryz.ntmps195
  go_wp2
  all_goals go_ret
  all_goals (refine ⟨ret_bool ?_, rfl⟩)
  all_goals (try simp only [Bool.not_eq_true', beq_eq_false_iff_ne, Bool.not_eq_false', beq_iff_eq, decide_eq_true_eq, decide_eq_false_iff_not] at *)
  all_goals (rw [Bool.eq_iff_iff]; simp only [isLetN, isDigN, isHexN, isWrdN, freeN, Bool.or_eq_true, Bool.and_eq_true, decide_eq_true_eq, Bool.false_eq_true, false_iff, true_iff, iff_true, iff_false, false_or, or_false, not_false_eq_true, not_true_eq_false])
  all_goals omega
theorem msg_isLetter (c : Nat) (w : World) : Calls Tryz.prog 182 #[.int .u8 (c : Int)] w fun e w' => e = .returned (.bool (isLetN c)) ∧ w = w' := by
  go_enter Tryz.func182, Tryz.ntmps182
  go_wp2
  all_goals go_ret
  all_goals (refine ⟨ret_bool ?_, rfl⟩)
  all_goals (try simp only [Bool.not_eq_true', beq_eq_false_iff_ne, Bool.not_eq_false', beq_iff_eq, decide_eq_true_eq, decide_eq_false_iff_not] at *)
  all_goals (rw [Bool.eq_iff_iff]; simp only [isLetN, isDigN, isHexN, isWrdN, freeN, Bool.or_eq_true, Bool.and_eq_true, decide_eq_true_eq, Bool.false_eq_true, false_iff, true_iff, iff_true, iff_false, false_or, or_false, not_false_eq_true, not_true_eq_false])
  all_goals omega
theorem msg_isDigit (c : Nat) (w : World) : Calls Tryz.prog 183 #[.int .u8 (c : Int)] w fun e w' => e = .returned (.bool (isDigN c)) ∧ w = w' := by
  go_enter Tryz.func183, Tryz.ntmps183
  go_wp2
  all_goals go_ret
  all_goals (refine ⟨ret_bool ?_, rfl⟩)
  all_goals (try simp only [Bool.not_eq_true', beq_eq_false_iff_ne, Bool.not_eq_false', beq_iff_eq, decide_eq_true_eq, decide_eq_false_iff_not] at *)
  all_goals (rw [Bool.eq_iff_iff]; simp only [isLetN, isDigN, isHexN, isWrdN, freeN, Bool.or_eq_true, Bool.and_eq_true, decide_eq_true_eq, Bool.false_eq_true, false_iff, true_iff, iff_true, iff_false, false_or, or_false, not_false_eq_true, not_true_eq_false])
  all_goals omega
theorem msg_isHex (c : Nat) (w : World) : Calls Tryz.prog 179 #[.int .u8 (c : Int)] w fun e w' => e = .returned (.bool (isHexN c)) ∧ w = w' := by
  have hd := msg_isDigit c w
  go_enter Tryz.func179, Tryz.ntmps179
  cases h : isDigN c
  · rw [h] at hd
    go_wp2_with (first | (refine hd.mono ?_; clear hd; rintro e w' ⟨rfl, rfl⟩))
    all_goals go_ret
    all_goals (refine ⟨ret_bool ?_, rfl⟩)
    all_goals (try simp only [Bool.not_eq_true', beq_eq_false_iff_ne, Bool.not_eq_false', beq_iff_eq, decide_eq_true_eq, decide_eq_false_iff_not] at *)
    all_goals (rw [Bool.eq_iff_iff]; simp only [isHexN, h, Bool.or_eq_true, Bool.and_eq_true, decide_eq_true_eq, Bool.false_eq_true, false_iff, true_iff, iff_true, iff_false, false_or, or_false, not_false_eq_true, not_true_eq_false])
    all_goals omega
  · rw [h] at hd
    go_wp2_with (first | (refine hd.mono ?_; clear hd; rintro e w' ⟨rfl, rfl⟩))
    go_ret
    exact ⟨ret_bool (by simp [isHexN, h]), rfl⟩
theorem val_isWordByte (c : Nat) (w : World) : Calls Tryz.prog 194 #[.int .u8 (c : Int)] w fun e w' => e = .returned (.bool (isWrdN c)) ∧ w = w' := by
  have hl := val_isLetter c w
  have hd := val_isDigit c w
  go_enter Tryz.func194, Tryz.ntmps194
  cases h : isLetN c
  · cases h2 : isDigN c
    · rw [h] at hl
      rw [h2] at hd
      go_wp2_with (first | (refine hl.mono ?_; clear hl; rintro e w' ⟨rfl, rfl⟩) | (refine hd.mono ?_; clear hd; rintro e w' ⟨rfl, rfl⟩))
      all_goals go_ret
      all_goals (refine ⟨ret_bool ?_, rfl⟩)
      all_goals (try simp only [Bool.not_eq_true', beq_eq_false_iff_ne, Bool.not_eq_false', beq_iff_eq, decide_eq_true_eq, decide_eq_false_iff_not] at *)
      all_goals (rw [Bool.eq_iff_iff]; simp only [isWrdN, h, h2, Bool.or_eq_true, Bool.and_eq_true, decide_eq_true_eq, beq_iff_eq, Bool.false_eq_true, false_iff, true_iff, iff_true, iff_false, false_or, or_false, not_false_eq_true, not_true_eq_false])
      all_goals omega
    · rw [h] at hl
      rw [h2] at hd
      go_wp2_with (first | (refine hl.mono ?_; clear hl; rintro e w' ⟨rfl, rfl⟩) | (refine hd.mono ?_; clear hd; rintro e w' ⟨rfl, rfl⟩))
      go_ret
      exact ⟨ret_bool (by simp [isWrdN, h, h2]), rfl⟩
  · rw [h] at hl
    go_wp2_with (first | (refine hl.mono ?_; clear hl; rintro e w' ⟨rfl, rfl⟩))
    go_ret
    exact ⟨ret_bool (by simp [isWrdN, h]), rfl⟩
end

/-- a byte that may stand at place j of a row that begins at i -/
def rowAt (s : List UInt8) (i j : Nat) : Bool := isWrdN (s.getD j 0).toNat && !(decide (j = i) && isDigN (s.getD j 0).toNat)
set_option maxHeartbeats 2000000 in
theorem val_plain (s : ByteArray) (i : Nat) (w : World) (hs : s.size ≤ maxLen) (hi : i ≤ s.size) :
    Calls Tryz.prog 177 #[.string s, .int .i64 (i : Int)] w fun e w' => (∃ k : Nat, e = .returned (.int .i64 (k : Int)) ∧ i ≤ k ∧ k ≤ s.size ∧ (∀ j, i ≤ j → j < k → rowAt s.data.toList i j = true) ∧ (k < s.size → rowAt s.data.toList i k = false)) ∧ w = w' := by
  unfold maxLen at hs
  go_enter Tryz.func177, Tryz.ntmps177
  go_wp2_with fail
  go_loop [5] (fun v => ∃ k : Nat, i ≤ k ∧ k ≤ s.size ∧ v = .int .i64 k ∧ Hid (∀ j, i ≤ j → j < k → rowAt s.data.toList i j = true)) (fun v => s.size - (intOf v).toNat)
  case atStart => exact ⟨i, Nat.le_refl _, hi, rfl, Lib.hid (fun j h1 h2 => by omega)⟩
  case round =>
    obtain ⟨k, hik, hk, rfl, HR⟩ := hrel
    by_cases hlt : k < s.size
    · have hg : s.data.toList.getD k 0 = s[k] := by
        rw [List.getD_eq_getElem?_getD, List.getElem?_eq_getElem (show k < s.data.toList.length from hlt)]
        rfl
      have HG : Hid (rowAt s.data.toList i k = (isWrdN s[k].toNat && !(decide (k = i) && isDigN s[k].toNat))) := Lib.hid (by unfold rowAt; rw [hg])
      clear hg
      have h1 := val_isWordByte s[k].toNat w
      have h2 := val_isDigit s[k].toNat w
      cases hw : isWrdN s[k].toNat <;> rw [hw] at h1 HG
      · go_wp2_with (first | (refine h1.mono ?_; clear h1; rintro e w' ⟨rfl, rfl⟩))
        go_ret
        exact ⟨⟨k, rfl, hik, hk, HR.out, fun _ => by rw [HG.out]; rfl⟩, rfl⟩
      · by_cases hki : k = i
        · have hki' : ((k : Int) == (i : Int)) = true := by simp; omega
          have hkd : decide (k = i) = true := decide_eq_true hki
          rw [hkd] at HG
          clear hki hkd
          cases hd : isDigN s[k].toNat <;> rw [hd] at h2 HG
          · go_wp2_with (first | (refine h1.mono ?_; clear h1; rintro e w' ⟨rfl, rfl⟩) | (refine h2.mono ?_; clear h2; rintro e w' ⟨rfl, rfl⟩))
            refine ⟨⟨k + 1, by omega, by omega, by go_num, Lib.hid (fun j hj1 hj2 => ?_)⟩, by simp [intOf]; omega⟩
            by_cases e : j = k
            · subst e; rw [HG.out]; rfl
            · exact HR.out j hj1 (by omega)
          · go_wp2_with (first | (refine h1.mono ?_; clear h1; rintro e w' ⟨rfl, rfl⟩) | (refine h2.mono ?_; clear h2; rintro e w' ⟨rfl, rfl⟩))
            go_ret
            exact ⟨⟨k, rfl, hik, hk, HR.out, fun _ => by rw [HG.out]; rfl⟩, rfl⟩
        · have hki' : ((k : Int) == (i : Int)) = false := by simp; omega
          have hkd : decide (k = i) = false := decide_eq_false hki
          rw [hkd] at HG
          clear hki hkd h2
          go_wp2_with (first | (refine h1.mono ?_; clear h1; rintro e w' ⟨rfl, rfl⟩))
          refine ⟨⟨k + 1, by omega, by omega, by go_num, Lib.hid (fun j hj1 hj2 => ?_)⟩, by simp [intOf]; omega⟩
          by_cases e : j = k
          · subst e; rw [HG.out]; rfl
          · exact HR.out j hj1 (by omega)
    · obtain rfl : k = s.size := by omega
      go_wp2_with fail
      go_ret
      exact ⟨⟨_, rfl, hik, Nat.le_refl _, HR.out, fun h => absurd h (by omega)⟩, rfl⟩

theorem plainRow_of {s : List UInt8} {k : Nat} (hne : s ≠ []) (hk : k ≤ s.length) (h1 : ∀ j, 0 ≤ j → j < k → rowAt s 0 j = true) (h2 : k < s.length → rowAt s 0 k = false) : decide ((k : Int) = (s.length : Int)) = plainRow s := by
  have hget : ∀ j (h : j < s.length), s.getD j 0 = s[j] := fun j h => by simp [List.getD_eq_getElem?_getD, List.getElem?_eq_getElem h]
  have hpos : 0 < s.length := by
    cases s with
    | nil => exact absurd rfl hne
    | cons a l => simp
  have hhead : (s.head?.map fun c => isDigN c.toNat).getD false = isDigN (s.getD 0 0).toNat := by
    cases s with
    | nil => exact absurd rfl hne
    | cons a l => rfl
  unfold plainRow
  rw [hhead]
  by_cases hkl : k = s.length
  · rw [decide_eq_true (by omega)]
    have ha : s.all (fun c => isWrdN c.toNat) = true := by
      rw [List.all_eq_true]
      intro c hc
      obtain ⟨j, hj, rfl⟩ := List.getElem_of_mem hc
      have := h1 j (Nat.zero_le _) (by omega)
      unfold rowAt at this
      rw [hget j hj] at this
      simp only [Bool.and_eq_true] at this
      exact this.1
    have hb := h1 0 (Nat.le_refl _) (by omega)
    unfold rowAt at hb
    simp only [decide_true, Bool.true_and, Bool.and_eq_true] at hb
    rw [ha, decide_eq_true hne, hb.2]; rfl
  · rw [decide_eq_false (by omega)]
    have hf := h2 (by omega)
    unfold rowAt at hf
    cases hw : isWrdN (s.getD k 0).toNat
    · have : s.all (fun c => isWrdN c.toNat) = false := all_stop (k := k) (by omega) (by rw [← hget k (by omega)]; exact hw)
      rw [this]; simp
    · rw [hw] at hf
      simp only [Bool.true_and, Bool.not_eq_false', Bool.and_eq_true, decide_eq_true_eq] at hf
      obtain ⟨rfl, hf⟩ := hf
      rw [hf]; simp
set_option maxHeartbeats 1000000 in
theorem val_isPlain (s : ByteArray) (w : World) (hs : s.size ≤ maxLen) :
    Calls Tryz.prog 158 #[.string s] w fun e w' => e = .returned (.bool (plainRow s.data.toList)) ∧ w = w' := by
  have hp := val_plain s 0 w hs (Nat.zero_le _)
  by_cases h0 : s.data.toList = []
  · have h1 : (s.toList == []) = true := by rw [ByteArray.toList_eq, h0]; rfl
    go_enter Tryz.func158, Tryz.ntmps158
    go_wp2_with fail
    go_ret
    exact ⟨ret_bool (by rw [h0]; rfl), rfl⟩
  · have h1 : (s.toList == []) = false := by rw [ByteArray.toList_eq]; simpa using h0
    have HQ : Hid (∀ k : Nat, k ≤ s.size → (∀ j, 0 ≤ j → j < k → rowAt s.data.toList 0 j = true) → (k < s.size → rowAt s.data.toList 0 k = false) → decide ((k : Int) = (s.size : Int)) = plainRow s.data.toList) := Lib.hid (fun k a b c => plainRow_of h0 a b c)
    clear h0
    go_enter Tryz.func158, Tryz.ntmps158
    go_wp2_with (first | (refine hp.mono ?_; clear hp; rintro e w' ⟨⟨k, rfl, hk1, hk2, hk3, hk4⟩, rfl⟩; have hq := HQ.out k hk2 hk3 hk4; clear hk3 hk4 HQ))
    all_goals go_ret
    all_goals (refine ⟨ret_bool ?_, rfl⟩)
    all_goals (rw [← hq]; first | rfl | (rw [Bool.eq_iff_iff]; simp) | simp)
set_option maxHeartbeats 1000000 in
theorem val_isRow (s : ByteArray) (w : World) (hs : s.size ≤ maxLen) :
    Calls Tryz.prog 128 #[.string s] w fun e w' => e = .returned (.bool (plainRow s.data.toList && decide (s.size ≤ 40))) ∧ w = w' := by
  have hp := val_isPlain s w hs
  cases h : plainRow s.data.toList <;> rw [h] at hp
  · go_enter Tryz.func128, Tryz.ntmps128
    go_wp2_with (first | (refine hp.mono ?_; clear hp; rintro e w' ⟨rfl, rfl⟩))
    go_ret
    exact ⟨rfl, rfl⟩
  · go_enter Tryz.func128, Tryz.ntmps128
    go_wp2_with (first | (refine hp.mono ?_; clear hp; rintro e w' ⟨rfl, rfl⟩))
    all_goals go_ret
    all_goals (refine ⟨ret_bool ?_, rfl⟩)
    all_goals (rw [Bool.eq_iff_iff]; simp; try omega)

/-- is every byte from lo to hi? -/
def inR (lo hi : Nat) (l : List UInt8) : Bool := l.all fun c => decide (lo ≤ c.toNat) && decide (c.toNat ≤ hi)
set_option maxHeartbeats 1000000 in
theorem msg_isRange (s : ByteArray) (lo hi : Nat) (w : World) (hs : s.size ≤ maxLen) :
    Calls Tryz.prog 131 #[.string s, .int .u8 (lo : Int), .int .u8 (hi : Int)] w fun e w' => e = .returned (.bool (inR lo hi s.data.toList)) ∧ w = w' := by
  unfold maxLen at hs
  go_enter Tryz.func131, Tryz.ntmps131
  go_wp2_with fail
  go_loop [10] (fun v => ∃ k : Nat, k ≤ s.size ∧ v = .int .i64 k ∧ Hid (inR lo hi (s.data.toList.take k) = true)) (fun v => s.size - (intOf v).toNat)
  case atStart => exact ⟨0, Nat.zero_le _, rfl, Lib.hid rfl⟩
  case round =>
    obtain ⟨k, hk, rfl, HR⟩ := hrel
    by_cases hlt : k < s.size
    · have hkl : k < s.data.toList.length := hlt
      have hg : s.data.toList[k] = s[k] := rfl
      have HT : Hid (inR lo hi (s.data.toList.take (k + 1)) = (decide (lo ≤ s[k].toNat) && decide (s[k].toNat ≤ hi))) := Lib.hid (by have := HR.out; unfold inR at *; rw [all_take hkl, this, hg]; rfl)
      have HF : Hid ((decide (lo ≤ s[k].toNat) && decide (s[k].toNat ≤ hi)) = false → inR lo hi s.data.toList = false) := Lib.hid (fun h => all_stop hkl (by rw [hg]; exact h))
      clear hg
      by_cases hb : lo ≤ s[k].toNat ∧ s[k].toNat ≤ hi
      · obtain ⟨b1, b2⟩ := hb
        have HB : Hid ((decide (lo ≤ s[k].toNat) && decide (s[k].toNat ≤ hi)) = true) := Lib.hid (by simp [b1, b2])
        go_wp2_with fail
        exact ⟨⟨k + 1, by omega, by go_num, Lib.hid (HT.out.trans HB.out)⟩, by simp [intOf]; omega⟩
      · have HB : Hid ((decide (lo ≤ s[k].toNat) && decide (s[k].toNat ≤ hi)) = false) := Lib.hid (by simp; omega)
        have hb' : ¬ ((lo : Int) ≤ (s[k].toNat : Int)) ∨ ((lo : Int) ≤ (s[k].toNat : Int)) ∧ ¬ ((s[k].toNat : Int) ≤ (hi : Int)) := by omega
        clear hb
        rcases hb' with b1 | ⟨b1, b2⟩
        all_goals go_wp2_with fail
        all_goals go_ret
        all_goals exact ⟨ret_bool (HF.out HB.out).symm, rfl⟩
    · obtain rfl : k = s.size := by omega
      have hfull : s.data.toList.take s.size = s.data.toList := List.take_length
      rw [hfull] at HR
      clear hfull
      go_wp2_with fail
      go_ret
      exact ⟨ret_bool HR.out.symm, rfl⟩

set_option maxHeartbeats 1000000 in
theorem msg_isUnit (s : ByteArray) (i : Nat) (w : World) (hs : s.size ≤ 1000000) (hi : i < s.size) :
    Calls Tryz.prog 161 #[.string s, .int .i64 (i : Int)] w fun e w' => e = .returned (.bool (unitAt s.data.toList i)) ∧ w = w' := by
  by_cases h2 : i + 2 < s.size
  · have g1 : s.data.toList.getD (i + 1) 0 = s[i + 1] := by
      rw [List.getD_eq_getElem?_getD, List.getElem?_eq_getElem (show i + 1 < s.data.toList.length by show _ < s.size; omega)]
      rfl
    have g2 : s.data.toList.getD (i + 2) 0 = s[i + 2] := by
      rw [List.getD_eq_getElem?_getD, List.getElem?_eq_getElem (show i + 2 < s.data.toList.length by show _ < s.size; omega)]
      rfl
    have HU : Hid (unitAt s.data.toList i = (isHexN s[i + 1].toNat && isHexN s[i + 2].toNat)) := Lib.hid (by
      unfold unitAt
      rw [g1, g2, decide_eq_true (show i + 2 < s.data.toList.length from h2)]
      rfl)
    clear g1 g2
    have c1 := msg_isHex s[i + 1].toNat w
    have c2 := msg_isHex s[i + 2].toNat w
    have n1 : ((i : Int) + 1).toNat = i + 1 := by omega
    have n2 : ((i : Int) + 2).toNat = i + 2 := by omega
    have hI : (i : Int) + 2 < (s.size : Int) := by omega
    cases hx1 : isHexN s[i + 1].toNat <;> rw [hx1] at c1 HU
    · go_enter Tryz.func161, Tryz.ntmps161
      go_wp2_with (first | (refine c1.mono ?_; rintro e w' ⟨rfl, rfl⟩))
      all_goals go_ret
      all_goals exact ⟨ret_bool (by rw [HU.out]; rfl), rfl⟩
    · generalize isHexN s[i + 2].toNat = r at c2 HU
      go_enter Tryz.func161, Tryz.ntmps161
      go_wp2_with (first | (refine c1.mono ?_; clear c1; rintro e w' ⟨rfl, rfl⟩) | (refine c2.mono ?_; clear c2; rintro e w' ⟨rfl, rfl⟩))
      all_goals go_ret
      all_goals exact ⟨ret_bool (by rw [HU.out]; rfl), rfl⟩
  · have HU : Hid (unitAt s.data.toList i = false) := Lib.hid (by
      unfold unitAt
      rw [decide_eq_false (show ¬ i + 2 < s.data.toList.length from h2)]
      rfl)
    have hI : (s.size : Int) ≤ (i : Int) + 2 := by omega
    clear h2
    go_enter Tryz.func161, Tryz.ntmps161
    go_wp2_with fail
    all_goals go_ret
    all_goals exact ⟨ret_bool HU.out.symm, rfl⟩

end Go.Proofs.YtnbcfpjalgfikaaGreatDoor
