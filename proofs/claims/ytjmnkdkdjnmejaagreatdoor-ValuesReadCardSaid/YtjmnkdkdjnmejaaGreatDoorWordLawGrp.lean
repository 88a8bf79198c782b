/- Several texts in one. (1) Trimming, and sets of bytes: the plain law. No conditions. (2) Bytes and words: the program's tests of bytes (packages value and message). Conditions: strings no longer than an int can count. -/
import Derived.Test.YtjmnkdkdjnmejaaGreatDoorTplLaw
import Derived.Lib.SlTrimSet
import Derived.Lib.Bytealg
import Derived.BigGuardPart

namespace Go.Proofs.YtjmnkdkdjnmejaaGreatDoor
open Go.RowKit
set_option linter.unusedVariables false
set_option linter.unusedSimpArgs false

theorem dropW_nil (p : UInt8 → Bool) : ∀ l : List UInt8, l.dropWhile p = [] ↔ ∀ c ∈ l, p c = true
  | [] => by simp
  | a :: l => by
    rw [List.dropWhile_cons]
    cases h : p a
    · simp only [Bool.false_eq_true, if_false]
      exact ⟨fun e => absurd e (by simp), fun e => by have := e a (by simp); rw [h] at this; cases this⟩
    · simp only [if_true]
      rw [dropW_nil p l]
      simp [h]
theorem dropW_rest (p : UInt8 → Bool) : ∀ (l : List UInt8) (c : UInt8), c ∈ l → p c = true ∨ c ∈ l.dropWhile p
  | [], c, h => by simp at h
  | a :: l, c, h => by
    rw [List.dropWhile_cons]
    cases hp : p a
    · simp only [Bool.false_eq_true, if_false]; exact .inr h
    · simp only [if_true]
      rcases List.mem_cons.1 h with rfl | h
      · exact .inl hp
      · exact dropW_rest p l c h
theorem dropW_sub (p : UInt8 → Bool) : ∀ (l : List UInt8) (c : UInt8), c ∈ l.dropWhile p → c ∈ l
  | [], c, h => by simp at h
  | a :: l, c, h => by
    rw [List.dropWhile_cons] at h
    cases hp : p a <;> rw [hp] at h
    · simpa using h
    · exact List.mem_cons_of_mem _ (dropW_sub p l c (by simpa using h))
theorem trimS_nil (l cs : List UInt8) : Lib.trimS l cs = [] ↔ ∀ c ∈ l, cs.contains c = true := by
  unfold Lib.trimS Lib.trimLeftS Lib.trimRightS
  rw [dropW_nil]
  constructor
  · intro h c hc
    rcases dropW_rest (cs.contains ·) l.reverse c (List.mem_reverse.2 hc) with h1 | h1
    · exact h1
    · exact h c (List.mem_reverse.2 h1)
  · intro h c hc
    exact h c (List.mem_reverse.1 (dropW_sub _ _ _ (List.mem_reverse.1 hc)))
theorem byteOf {p : UInt8 → Prop} (h : ∀ n, n < 256 → p (UInt8.ofNat n)) (c : UInt8) : p c := by
  have := h c.toNat (by have := c.toNat_lt; simpa using this)
  simpa using this

/-- the hexadecimal digits -/
def hexsB : ByteArray := ⟨#[48, 49, 50, 51, 52, 53, 54, 55, 56, 57, 97, 98, 99, 100, 101, 102, 65, 66, 67, 68, 69, 70]⟩
theorem hexs_at (c : UInt8) : hexsB.data.toList.contains c = isHexN c.toNat := by
  revert c
  apply byteOf
  decide +kernel
theorem trim_hex (l : List UInt8) : Lib.trimS l hexsB.data.toList = [] ↔ l.all (fun c => isHexN c.toNat) = true := by
  rw [trimS_nil, List.all_eq_true]
  exact ⟨fun h c hc => by rw [← hexs_at]; exact h c hc, fun h c hc => by rw [hexs_at]; exact h c hc⟩

section
set_option maxHeartbeats 1000000
theorem val_isLetter (c : Nat) (w : World) : Calls Tryz.prog 67 #[.int .u8 (c : Int)] w fun e w' => e = .returned (.bool (isLetN c)) ∧ w = w' := by
  go_enter Tryz.func67, Tryz.ntmps67
  go_wp2
  all_goals go_ret
  all_goals (refine ⟨ret_bool ?_, rfl⟩)
  all_goals (try simp only [Bool.not_eq_true', beq_eq_false_iff_ne, Bool.not_eq_false', beq_iff_eq, decide_eq_true_eq, decide_eq_false_iff_not] at *)
  all_goals (rw [Bool.eq_iff_iff]; simp only [isLetN, isDigN, isHexN, isWrdN, freeN, Bool.or_eq_true, Bool.and_eq_true, decide_eq_true_eq, Bool.false_eq_true, false_iff, true_iff, iff_true, iff_false, false_or, or_false, not_false_eq_true, not_true_eq_false])
  all_goals omega
theorem val_isDigit (c : Nat) (w : World) : Calls Tryz.prog 68 #[.int .u8 (c : Int)] w fun e w' => e = .returned (.bool (isDigN c)) ∧ w = w' := by
  go_enter Tryz.func68, Tryz.ntmps68
  go_wp2
  all_goals go_ret
  all_goals (refine ⟨ret_bool ?_, rfl⟩)
  all_goals (try simp only [Bool.not_eq_true', beq_eq_false_iff_ne, Bool.not_eq_false', beq_iff_eq, decide_eq_true_eq, decide_eq_false_iff_not] at *)
  all_goals (rw [Bool.eq_iff_iff]; simp only [isLetN, isDigN, isHexN, isWrdN, freeN, Bool.or_eq_true, Bool.and_eq_true, decide_eq_true_eq, Bool.false_eq_true, false_iff, true_iff, iff_true, iff_false, false_or, or_false, not_false_eq_true, not_true_eq_false])
  all_goals omega
end

end Go.Proofs.YtjmnkdkdjnmejaaGreatDoor
