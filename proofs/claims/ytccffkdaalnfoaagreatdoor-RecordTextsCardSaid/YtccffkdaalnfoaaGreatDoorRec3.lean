/- Records: the dash of an empty name, on both sides. Conditions: the name is empty or a key. -/
import Derived.Test.YtccffkdaalnfoaaGreatDoorRec2
import Derived.Test.YtccffkdaalnfoaaGreatDoorTxt
namespace Go.Proofs.YtccffkdaalnfoaaGreatDoor
open Go.RowKit
set_option linter.unusedVariables false
set_option linter.unusedSimpArgs false

theorem isKey_nil : isKey ⟨#[]⟩ = false := by decide +kernel
theorem gate_dash (s : ByteArray) (w : World) (hs : s.size ≤ maxLen) (hb : nameBad s = false) :
    Calls Tryz.prog 43 #[.string s] w fun e w' => e = .returned (.string (dashE s)) ∧ w = w' := by
  by_cases h : s = ⟨#[]⟩
  · subst h
    have hk := isKey_nil
    go_enter Tryz.func43, Tryz.ntmps43
    go_wp2_with fail
    refine (kit_isKey _ _ hs).mono ?_
    rintro e w1 ⟨rfl, rfl⟩
    rw [hk]
    go_wp2_with fail
    go_ret
    exact ⟨by rfl, rfl⟩
  · have hk : isKey s = true := by
      unfold nameBad at hb
      cases hk : isKey s with
      | true => rfl
      | false => rw [hk] at hb; simp [h] at hb
    have hd : dashE s = s := if_neg h
    go_enter Tryz.func43, Tryz.ntmps43
    go_wp2_with fail
    refine (kit_isKey _ _ hs).mono ?_
    rintro e w1 ⟨rfl, rfl⟩
    rw [hk]
    go_wp2_with fail
    go_ret
    exact ⟨by rw [hd]; rfl, rfl⟩
theorem ref_dash (s : ByteArray) (w : World) :
    Calls Tryz.prog 46 #[.string s] w fun e w' => e = .returned (.string (dashE s)) ∧ w = w' := by
  by_cases h : s = ⟨#[]⟩
  · subst h
    go_enter Tryz.func46, Tryz.ntmps46
    go_wp2_with fail
    go_ret
    exact ⟨by rfl, rfl⟩
  · have hk : (s.toList == []) = false := by rw [str_nil]; simpa using h
    have hd : dashE s = s := if_neg h
    go_enter Tryz.func46, Tryz.ntmps46
    go_wp2_with fail
    go_ret
    exact ⟨by rw [hd]; rfl, rfl⟩

end Go.Proofs.YtccffkdaalnfoaaGreatDoor
