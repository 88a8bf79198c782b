/- Values written: the reference's Written. Conditions: a right value, a text that is not too large; strconv's table. -/
import Derived.Test.YtjmnkdkdjnmejaaGreatDoorVal2Grp
import Derived.Test.YtjmnkdkdjnmejaaGreatDoorRpAllGrp
import Derived.Test.YtjmnkdkdjnmejaaGreatDoorValCloneGrp
import Derived.Test.YtjmnkdkdjnmejaaGreatDoorVal1Grp
namespace Go.Proofs.YtjmnkdkdjnmejaaGreatDoor
open Go.RowKit
set_option linter.unusedVariables false
set_option linter.unusedSimpArgs false

theorem join_commas : ∀ l : List (List UInt8), Lib.join l [44] = commas l
  | [] => rfl
  | [x] => by simp [Lib.join, List.intercalate, commas]
  | x :: y :: r => by
    have ih := join_commas (y :: r)
    rw [commas, ← ih]
    simp [Lib.join, List.intercalate, List.intersperse]
def txtB (l : List UInt8) : ByteArray := ⟨l.toArray⟩
theorem txtB_toList (l : List UInt8) : (txtB l).data.toList = l := by simp [txtB]
theorem txtB_size (l : List UInt8) : (txtB l).size = l.length := by simp [txtB, ByteArray.size]
theorem txtB_wrap (a b : UInt8) (C : List UInt8) : ((⟨#[a]⟩ : ByteArray) ++ txtB C ++ ⟨#[b]⟩) = txtB (a :: (C ++ [b])) := by
  apply ByteArray.ext
  apply Array.ext'
  simp [txtB, ByteArray.data_append]
theorem txtB_mid (a : UInt8) (C D : List UInt8) : (txtB C ++ (⟨#[a]⟩ : ByteArray) ++ txtB D) = txtB (C ++ a :: D) := by
  apply ByteArray.ext
  apply Array.ext'
  simp [txtB, ByteArray.data_append]
/-- strings.Join of a row of the call's own -/
theorem join_own (A : Option Addr) (B n c : Nat) (xs : List (List UInt8)) (w : World) (ho : Own w B 9 1 strE A n c (xs.map txtB)) (hn : n ≤ 1000000) (hl : (commas xs).length ≤ 1000000) :
    Calls Tryz.prog 31 #[.slice A n c, .string ⟨#[44]⟩] w fun e w' => e = .returned (.string (txtB (commas xs))) ∧ New w w' := by
  rcases Nat.eq_zero_or_pos n with h0 | h0
  · subst h0
    have hx : xs = [] := by have := ho.1; simpa using this
    subst hx
    refine (Tryz.strings_Join_none A c ⟨#[44]⟩ w).mono ?_
    rintro e w' ⟨rfl, rfl⟩
    exact ⟨rfl, Mod.refl _ _⟩
  · obtain ⟨g, rfl, hB, htb, hc1, hc2⟩ := ho.form h0
    have hln : xs.length = n := by have := ho.1; simpa using this
    have hmm : (xs.map txtB).map (·.data.toList) = xs := by
      rw [List.map_map]
      conv => rhs; rw [← List.map_id xs]
      apply List.map_congr_left
      intro a _
      exact txtB_toList a
    have hj := Tryz.strings_Join g 0 c (xs.map txtB) ⟨#[44]⟩ w (fun j x hx => by
      rw [Nat.zero_add]
      obtain ⟨hj, rfl⟩ := List.getElem?_eq_some_iff.1 hx
      exact ho.cell1 hj) htb.lt (by simp; omega) (by simp; omega) (by rw [hmm, join_commas]; omega)
    rw [hmm, join_commas] at hj
    rw [List.length_map, hln] at hj
    refine hj.mono ?_
    rintro e w' ⟨rfl, hm⟩
    exact ⟨rfl, Mod.of_below hm⟩

end Go.Proofs.YtjmnkdkdjnmejaaGreatDoor
