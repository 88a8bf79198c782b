/- The reference's store: Lease, Return, Free, and the making of the two. Conditions: a window limit that was checked. -/
import Derived.Test.YtinnckbffblecaaGreatStore
namespace Go.Proofs.YtinnckbffblecaaGreat
open Go.RowKit Go.MapKept
set_option linter.unusedVariables false
set_option linter.unusedSimpArgs false


theorem callF_x (s : CS) (t : Int) : callF s t "x".toUTF8 1 = timeF s t := by
  have hk : isKey "x".toUTF8 = true := by decide +kernel
  unfold callF
  rw [hk]
  by_cases h : timeF s t = 0
  · simp [h]
  · simp [h]

end Go.Proofs.YtinnckbffblecaaGreat
