/- Letters' case, trimming one byte, tokens, fields and the names of hosts: the plain law. No program in sight. No conditions. -/
import Derived.Test.YtnbcfpjalgfikaaGreatDoorWordLawGrp
import Derived.Lib.Case
namespace Go.Proofs.YtnbcfpjalgfikaaGreatDoor
open Go.RowKit
set_option linter.unusedVariables false
set_option linter.unusedSimpArgs false

theorem dropW_self (p : UInt8 → Bool) : ∀ l : List UInt8, l.dropWhile p = l ↔ ∀ c, l.head? = some c → p c = false
  | [] => by simp
  | a :: l => by
    rw [List.dropWhile_cons]
    cases h : p a
    · simp [h]
    · simp only [if_true, List.head?_cons, Option.some.injEq]
      constructor
      · intro e
        have h1 := congrArg List.length e
        have h2 := (List.dropWhile_sublist p (l := l)).length_le
        simp at h1
        omega
      · intro e
        rw [e a rfl] at h
        cases h
theorem dropW_len (p : UInt8 → Bool) (l : List UInt8) : (l.dropWhile p).length ≤ l.length := (List.dropWhile_sublist p).length_le
theorem trimS_one (l : List UInt8) (k : UInt8) : Lib.trimS l [k] = l ↔ l.head? ≠ some k ∧ l.getLast? ≠ some k := by
  have hc : ∀ c : UInt8, ([k] : List UInt8).contains c = false ↔ c ≠ k := fun c => by simp [List.contains_cons]
  have hR : (l.reverse.dropWhile (([k] : List UInt8).contains ·)).reverse = l ↔ l.getLast? ≠ some k := by
    rw [show ((l.reverse.dropWhile (([k] : List UInt8).contains ·)).reverse = l) ↔ (l.reverse.dropWhile (([k] : List UInt8).contains ·) = l.reverse) from ⟨fun e => by rw [← List.reverse_reverse (List.dropWhile _ _), e], fun e => by rw [e, List.reverse_reverse]⟩]
    rw [dropW_self, List.head?_reverse]
    constructor
    · intro h e
      exact (hc k).1 (h k e) rfl
    · intro h c e
      exact (hc c).2 (fun q => h (by rw [e, q]))
  have hL : ∀ m : List UInt8, m.dropWhile (([k] : List UInt8).contains ·) = m ↔ m.head? ≠ some k := fun m => by
    rw [dropW_self]
    constructor
    · intro h e
      exact (hc k).1 (h k e) rfl
    · intro h c e
      exact (hc c).2 (fun q => h (by rw [e, q]))
  unfold Lib.trimS Lib.trimLeftS Lib.trimRightS
  constructor
  · intro e
    have h1 := dropW_len (([k] : List UInt8).contains ·) (l.reverse.dropWhile (([k] : List UInt8).contains ·)).reverse
    have h2 := dropW_len (([k] : List UInt8).contains ·) l.reverse
    have h3 := congrArg List.length e
    simp only [List.length_reverse] at h1 h2 h3
    have h4 : l.reverse.dropWhile (([k] : List UInt8).contains ·) = l.reverse := (List.dropWhile_sublist _).eq_of_length (by simp only [List.length_reverse]; omega)
    have h5 : (l.reverse.dropWhile (([k] : List UInt8).contains ·)).reverse = l := by rw [h4, List.reverse_reverse]
    rw [h5] at e
    exact ⟨(hL l).1 e, hR.1 h5⟩
  · rintro ⟨h1, h2⟩
    rw [hR.2 h2]
    exact (hL l).2 h1

/-- what may stand in a token -/
def tokMarks : List UInt8 := [33, 35, 36, 37, 38, 39, 42, 43, 45, 46, 94, 95, 96, 124, 126]
def tokN (c : UInt8) : Bool := isLetN c.toNat || isDigN c.toNat || tokMarks.contains c
def isTok (s : ByteArray) : Bool := s.data.toList.all tokN && decide (s.size ≠ 0) && decide (s.size ≤ 100)
def tokB : ByteArray := ⟨#[97, 98, 99, 100, 101, 102, 103, 104, 105, 106, 107, 108, 109, 110, 111, 112, 113, 114, 115, 116, 117, 118, 119, 120, 121, 122, 65, 66, 67, 68, 69, 70, 71, 72, 73, 74, 75, 76, 77, 78, 79, 80, 81, 82, 83, 84, 85, 86, 87, 88, 89, 90, 48, 49, 50, 51, 52, 53, 54, 55, 56, 57, 33, 35, 36, 37, 38, 39, 42, 43, 45, 46, 94, 95, 96, 124, 126]⟩
theorem tok_at (c : UInt8) : decide (0 ≤ Lib.indexByte tokB.data.toList c) = tokN c := by
  revert c
  apply byteOf
  decide +kernel
theorem tmark_at (c : UInt8) : decide (0 ≤ Lib.indexByte tokMarks c) = tokMarks.contains c := by
  revert c
  apply byteOf
  decide +kernel
theorem tok_ascii {c : UInt8} (h : tokN c = true) : c.toNat < 128 := by
  revert h
  revert c
  apply byteOf
  decide +kernel

/-- no small letter; no great one -/
def noLow (l : List UInt8) : Bool := l.all fun c => !(decide (97 ≤ c.toNat) && decide (c.toNat ≤ 122))
def noUp (l : List UInt8) : Bool := l.all fun c => !(decide (65 ≤ c.toNat) && decide (c.toNat ≤ 90))
theorem upperB_self (c : UInt8) : decide (Lib.upperB c = c) = !(decide (97 ≤ c.toNat) && decide (c.toNat ≤ 122)) := by
  revert c
  apply byteOf
  decide +kernel
theorem lowerB_self (c : UInt8) : decide (Lib.lowerB c = c) = !(decide (65 ≤ c.toNat) && decide (c.toNat ≤ 90)) := by
  revert c
  apply byteOf
  decide +kernel
theorem map_self {f : UInt8 → UInt8} : ∀ l : List UInt8, decide (l.map f = l) = l.all fun c => decide (f c = c)
  | [] => rfl
  | a :: l => by
    rw [List.all_cons, ← map_self l, List.map_cons, Bool.eq_iff_iff]
    simp
theorem upper_self (l : List UInt8) : decide (Lib.toUpperA l = l) = noLow l := by
  unfold Lib.toUpperA noLow
  rw [map_self]
  congr 1
  funext c
  exact upperB_self c
theorem lower_self (l : List UInt8) : decide (Lib.toLowerA l = l) = noUp l := by
  unfold Lib.toLowerA noUp
  rw [map_self]
  congr 1
  funext c
  exact lowerB_self c

/-- a field's value -/
def isFld (s : ByteArray) : Bool := decide (s.size ≤ 2000) && s.data.toList.all (fun c => decide (32 ≤ c.toNat) && decide (c.toNat ≤ 126)) && decide (Lib.trimS s.data.toList [32] = s.data.toList)

/-- a part of a host's name -/
def labC (c : UInt8) : Bool := isLetN c.toNat || isDigN c.toNat || decide (c = 45)
def labOk (l : List UInt8) : Bool := l.all labC && decide (l ≠ []) && decide (l.length ≤ 63) && decide (l.head? ≠ some 45) && decide (l.getLast? ≠ some 45)
def labB : ByteArray := ⟨#[97, 98, 99, 100, 101, 102, 103, 104, 105, 106, 107, 108, 109, 110, 111, 112, 113, 114, 115, 116, 117, 118, 119, 120, 121, 122, 65, 66, 67, 68, 69, 70, 71, 72, 73, 74, 75, 76, 77, 78, 79, 80, 81, 82, 83, 84, 85, 86, 87, 88, 89, 90, 48, 49, 50, 51, 52, 53, 54, 55, 56, 57, 45]⟩
theorem lab_at (c : UInt8) : decide (0 ≤ Lib.indexByte labB.data.toList c) = labC c := by
  revert c
  apply byteOf
  decide +kernel
theorem lab_ascii {c : UInt8} (h : labC c = true) : c.toNat < 128 := by
  revert h
  revert c
  apply byteOf
  decide +kernel
theorem labOk_ref (l : List UInt8) : labOk l = (decide (1 ≤ l.length) && decide (l.length ≤ 63) && l.all labC && decide (Lib.trimS l [45] = l)) := by
  unfold labOk
  rw [Bool.eq_iff_iff]
  simp only [Bool.and_eq_true, decide_eq_true_eq, trimS_one]
  constructor
  · rintro ⟨⟨⟨⟨h1, h2⟩, h3⟩, h4⟩, h5⟩
    refine ⟨⟨⟨?_, h3⟩, h1⟩, h4, h5⟩
    cases l with
    | nil => exact absurd rfl h2
    | cons a l => simp
  · rintro ⟨⟨⟨h1, h2⟩, h3⟩, h4, h5⟩
    refine ⟨⟨⟨⟨h3, ?_⟩, h2⟩, h4⟩, h5⟩
    rintro rfl
    simp at h1
end Go.Proofs.YtnbcfpjalgfikaaGreatDoor
