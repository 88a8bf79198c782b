/- Asks: the reference's checks. Conditions: the names are no longer than an int can count. -/
import Derived.Test.YtccffkdaalnfoaaGreatDoorAsks
namespace Go.Proofs.YtccffkdaalnfoaaGreatDoor
open Go.RowKit
set_option linter.unusedVariables false
set_option linter.unusedSimpArgs false

theorem ref_moment2 (n : Int) (w : World) :
    Calls Tryz.prog 24 #[.int .i64 n] w fun e w' => e = .returned (.bool (isMoment n)) ∧ w = w' := by
  go_enter Tryz.func24, Tryz.ntmps24
  go_wp2_with fail
  refine (ref2_in _ _ _ _).mono ?_
  rintro e w1 ⟨rfl, rfl⟩
  go_wp2_with fail
  go_ret
  refine ⟨ret_bool ?_, rfl⟩
  rw [Bool.eq_iff_iff]
  simp [isMoment]
  omega

end Go.Proofs.YtccffkdaalnfoaaGreatDoor
