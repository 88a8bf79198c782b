/- Keys: the program's test and the reference's test are one function of the string. Conditions: none but that a string is no longer than an int can count. -/
import Derived.Test.YtnbcfpjalgfikaaGreatDoorStream
import Derived.Test.YtnbcfpjalgfikaaGreatDoorShelf
import Derived.BigGuardPart
namespace Go.Proofs.YtnbcfpjalgfikaaGreatDoor
open Go.RowKit
set_option linter.unusedVariables false
set_option linter.unusedSimpArgs false

/-- may this byte stand at place i of a key? -/
def okAt (i : Nat) (c : Nat) : Bool := (decide (97 ≤ c) && decide (c ≤ 122)) || (decide (0 < i) && ((decide (48 ≤ c) && decide (c ≤ 57)) || decide (c = 45) || decide (c = 95)))
def okTo (s : ByteArray) (k : Nat) : Bool := (List.range k).all fun i => okAt i (s[i]?.getD 0).toNat
def isKey (s : ByteArray) : Bool := okTo s s.size && decide (s.size ≠ 0) && decide (s.size ≤ 40)

theorem okTo_succ (s : ByteArray) (k : Nat) : okTo s (k + 1) = (okTo s k && okAt k (s[k]?.getD 0).toNat) := by
  simp [okTo, List.range_succ]
theorem okTo_false {s : ByteArray} {k n : Nat} (h : okTo s k = false) (hk : k ≤ n) : okTo s n = false := by
  induction n with
  | zero => obtain rfl : k = 0 := by omega
            exact h
  | succ n ih =>
    by_cases e : k = n + 1
    · subst e; exact h
    · rw [okTo_succ, ih (by omega)]; rfl

theorem str_empty {s : ByteArray} : s.size = 0 ↔ s.toList = [] := by
  rw [ByteArray.toList_eq]
  cases s with | mk d => simp [ByteArray.size]

set_option maxHeartbeats 1000000 in
theorem kit_isKey (s : ByteArray) (w : World) (hs : s.size ≤ maxLen) :
    Calls Tryz.prog 100 #[.string s] w fun e w' => e = .returned (.bool (isKey s)) ∧ w = w' := by
  unfold maxLen at hs
  go_enter Tryz.func100, Tryz.ntmps100
  go_wp2
  go_loop [3, 4] (fun i c => ∃ k : Nat, k ≤ s.size ∧ i = .int .i64 k ∧ okTo s k = true) (fun i _ => s.size - (intOf i).toNat)
  case atStart => exact ⟨0, Nat.zero_le _, rfl, rfl⟩
  case round =>
    obtain ⟨k, hk, rfl, hto⟩ := hrel
    have HT := Lib.hid hto
    clear hto
    by_cases hlt : k < s.size
    · have hg : s[k]?.getD 0 = s[k] := by simp [hlt]
      have HG := Lib.hid hg
      clear hg
      go_wp2
      all_goals (try go_ret)
      all_goals simp only [Bool.not_eq_true', beq_eq_false_iff_ne, Bool.not_eq_false', beq_iff_eq] at *
      all_goals first
        | (refine ⟨⟨k + 1, by omega, by go_num, ?_⟩, by simp [intOf]; omega⟩
           rw [okTo_succ, HT.out, HG.out]; simp [okAt]; omega)
        | (refine ⟨?_, by first | rfl | trivial⟩
           have hz : okAt k s[k].toNat = false := by simp [okAt]; omega
           have := okTo_false (n := s.size) (show okTo s (k + 1) = false by rw [okTo_succ, HT.out, HG.out, hz]; rfl) (by omega)
           simp [isKey, this])
    · obtain rfl : k = s.size := by omega
      go_wp2
      all_goals go_ret
      · have : s.size ≠ 0 := by intro h; rw [str_empty] at h; simp_all
        refine ⟨?_, rfl⟩
        simp [isKey, HT.out, this]
        omega
      · refine ⟨?_, rfl⟩
        have : s.size = 0 := by rw [str_empty]; simp_all
        simp [isKey, this]

/-- does each of the first k bytes of s stand in t? -/
def onlyTo (s t : ByteArray) (k : Nat) : Bool := (List.range k).all fun i => decide (0 ≤ Lib.indexByte t.data.toList (s[i]?.getD 0))
theorem onlyTo_succ (s t : ByteArray) (k : Nat) : onlyTo s t (k + 1) = (onlyTo s t k && decide (0 ≤ Lib.indexByte t.data.toList (s[k]?.getD 0))) := by
  simp [onlyTo, List.range_succ]
theorem onlyTo_false {s t : ByteArray} {k n : Nat} (h : onlyTo s t k = false) (hk : k ≤ n) : onlyTo s t n = false := by
  induction n with
  | zero => obtain rfl : k = 0 := by omega
            exact h
  | succ n ih =>
    by_cases e : k = n + 1
    · subst e; exact h
    · rw [onlyTo_succ, ih (by omega)]; rfl

set_option maxHeartbeats 1000000 in
theorem ref_only (s t : ByteArray) (w : World) (hs : s.size ≤ maxLen) :
    Calls Tryz.prog 73 #[.string s, .string t] w fun e w' => e = .returned (.bool (onlyTo s t s.size)) ∧ w = w' := by
  unfold maxLen at hs
  go_enter Tryz.func73, Tryz.ntmps73
  go_wp2
  go_loop [5, 8] (fun _ i => ∃ k : Nat, k ≤ s.size ∧ i = .int .i64 k ∧ onlyTo s t k = true) (fun _ i => s.size - (intOf i).toNat)
  case atStart => exact ⟨0, Nat.zero_le _, rfl, rfl⟩
  case round =>
    obtain ⟨k, hk, rfl, hto⟩ := hrel
    have HT := Lib.hid hto
    clear hto
    by_cases hlt : k < s.size
    · have hg : s[k]?.getD 0 = s[k] := by simp [hlt]
      have HG := Lib.hid hg
      clear hg
      go_wp2_with fail
      refine (Tryz.strings_IndexByte t _ _).mono ?_
      rintro e w' ⟨rfl, rfl⟩
      have hcv : ((s[k].toNat : Int)).toNat.toUInt8 = s[k] := by simp
      rw [hcv]
      clear hcv
      go_wp2_with fail
      all_goals (try go_ret)
      · refine ⟨?_, rfl⟩
        rw [onlyTo_false (n := s.size) (show onlyTo s t (k + 1) = false by rw [onlyTo_succ, HT.out, HG.out]; simp; assumption) (by omega)]; rfl
      · refine ⟨⟨k + 1, by omega, by go_num, ?_⟩, by simp [intOf]; omega⟩
        rw [onlyTo_succ, HT.out, HG.out]; simp; assumption
    · obtain rfl : k = s.size := by omega
      go_wp2_with fail
      all_goals go_ret
      exact ⟨by rw [HT.out]; rfl, rfl⟩

def smalls : ByteArray := ⟨#[97, 98, 99, 100, 101, 102, 103, 104, 105, 106, 107, 108, 109, 110, 111, 112, 113, 114, 115, 116, 117, 118, 119, 120, 121, 122]⟩
def keyChars : ByteArray := ⟨#[97, 98, 99, 100, 101, 102, 103, 104, 105, 106, 107, 108, 109, 110, 111, 112, 113, 114, 115, 116, 117, 118, 119, 120, 121, 122, 48, 49, 50, 51, 52, 53, 54, 55, 56, 57, 45, 95]⟩

theorem of_byte {p : UInt8 → Prop} (h : ∀ n, n < 256 → p (UInt8.ofNat n)) (c : UInt8) : p c := by
  have := h c.toNat (by have := c.toNat_lt; simpa using this)
  simpa using this
theorem smalls_at (c : UInt8) : decide (0 ≤ Lib.indexByte smalls.data.toList c) = (decide (97 ≤ c.toNat) && decide (c.toNat ≤ 122)) := by
  revert c
  apply of_byte
  decide +kernel
theorem keyChars_at (c : UInt8) : decide (0 ≤ Lib.indexByte keyChars.data.toList c) = okAt 1 c.toNat := by
  revert c
  apply of_byte
  decide +kernel

theorem okAt_pos {i : Nat} (h : 0 < i) (c : Nat) : okAt i c = okAt 1 c := by simp [okAt, h]
theorem okAt_zero (c : Nat) : okAt 0 c = (decide (97 ≤ c) && decide (c ≤ 122)) := by simp [okAt]
theorem okAt_one_of_zero {c : Nat} (h : okAt 0 c = true) : okAt 1 c = true := by simp [okAt] at *; omega

theorem okTo_eq (s : ByteArray) (k : Nat) : okTo s (k + 1) = (okAt 0 (s[0]?.getD 0).toNat && onlyTo s keyChars (k + 1)) := by
  induction k with
  | zero =>
    rw [okTo_succ, onlyTo_succ, keyChars_at]
    simp only [okTo, onlyTo, List.range_zero, List.all_nil, Bool.true_and]
    cases h : okAt 0 (s[0]?.getD 0).toNat
    · rfl
    · rw [okAt_one_of_zero h]; rfl
  | succ k ih =>
    rw [okTo_succ, ih, onlyTo_succ s keyChars (k + 1), keyChars_at, okAt_pos (show 0 < k + 1 by omega), Bool.and_assoc]

/-- the first byte alone -/
theorem only_head (s : ByteArray) (h : 0 < s.size) : onlyTo (s.extract 0 1) smalls (s.extract 0 1).size = okAt 0 (s[0]?.getD 0).toNat := by
  have hz : (s.extract 0 1).size = 1 := by simp; omega
  rw [hz, onlyTo_succ, smalls_at, okAt_zero]
  have : (s.extract 0 1)[0]? = s[0]? := by
    rw [getElem?_pos (s.extract 0 1) 0 (by omega), getElem?_pos s 0 h]
    simp [ByteArray.getElem_extract]
  rw [this]
  simp [onlyTo]

def refKey (s : ByteArray) : Bool := decide (1 ≤ s.size) && decide (s.size ≤ 40) && onlyTo (s.extract 0 1) smalls (s.extract 0 1).size && onlyTo s keyChars s.size
theorem refKey_eq (s : ByteArray) : refKey s = isKey s := by
  unfold refKey isKey
  by_cases h : s.size = 0
  · simp [h]
  · obtain ⟨k, hk⟩ : ∃ k, s.size = k + 1 := ⟨s.size - 1, by omega⟩
    rw [only_head s (by omega), hk, okTo_eq]
    simp
    cases okAt 0 (s[0]?.getD 0).toNat <;> cases onlyTo s keyChars (k + 1) <;> simp

set_option maxHeartbeats 1000000 in
theorem ref2_in (n a b : Int) (w : World) :
    Calls Tryz.prog 72 #[.int .i64 n, .int .i64 a, .int .i64 b] w fun e w' => e = .returned (.bool (decide (a ≤ n) && decide (n ≤ b))) ∧ w = w' := by
  by_cases h : a ≤ n
  · go_enter Tryz.func72, Tryz.ntmps72
    go_wp2
    go_ret
    exact ⟨by simp [h], rfl⟩
  · have h' : decide (a ≤ n) = false := by simpa using h
    go_enter Tryz.func72, Tryz.ntmps72
    go_wp2
    go_ret
    exact ⟨by simp [h'], rfl⟩

set_option maxHeartbeats 1000000 in
theorem ref_key (s : ByteArray) (w : World) (hs : s.size ≤ maxLen) :
    Calls Tryz.prog 43 #[.string s] w fun e w' => e = .returned (.bool (isKey s)) ∧ w = w' := by
  rw [← refKey_eq]
  unfold maxLen at hs
  go_enter Tryz.func43, Tryz.ntmps43
  go_wp2_with fail
  refine (ref2_in _ _ _ _).mono ?_
  rintro e w' ⟨rfl, rfl⟩
  by_cases h1 : 1 ≤ s.size ∧ s.size ≤ 40
  · have e1 : (decide (1 ≤ (s.size : Int)) && decide ((s.size : Int) ≤ 40)) = true := by simp; omega
    rw [e1]
    have e2 : (s.size : Int) ≥ 1 := by omega
    go_wp2_with fail
    refine (ref_only (s.extract 0 1) smalls _ (by simp [maxLen]; omega)).mono ?_
    rintro e w' ⟨rfl, rfl⟩
    cases h2 : onlyTo (s.extract 0 1) smalls (s.extract 0 1).size
    · go_wp2_with fail
      go_ret
      refine ⟨?_, rfl⟩
      simp only [refKey, h2, h1.1, h1.2]
      simp
    · go_wp2_with fail
      refine (ref_only s keyChars _ (by simp [maxLen]; omega)).mono ?_
      rintro e w' ⟨rfl, rfl⟩
      go_wp2_with fail
      go_ret
      refine ⟨?_, rfl⟩
      simp only [refKey, h2, h1.1, h1.2]
      simp
  · have e1 : (decide (1 ≤ (s.size : Int)) && decide ((s.size : Int) ≤ 40)) = false := by simp; omega
    rw [e1]
    go_wp2_with fail
    go_ret
    refine ⟨?_, rfl⟩
    simp [refKey]
    omega

end Go.Proofs.YtnbcfpjalgfikaaGreatDoor
