/- slices.Delete of one value, of one member, from a row that the call owns. (printed by mkdel.py) Conditions: at most 1000000 of them. -/
import Derived.Test.YtpgcbehpknghdaaGreatDoorVal1Grp
import Derived.Test.YtpgcbehpknghdaaGreatDoorRowGrp
import Derived.Test.YtpgcbehpknghdaaGreatDoorQuietTail
namespace Go.Proofs.YtpgcbehpknghdaaGreatDoor
open Go.RowKit Go.MapKept
set_option linter.unusedVariables false
set_option linter.unusedSimpArgs false


theorem zero_va (w : World) : (zeroValue 29).run Tryz.prog w = .ok (.agg #[.int .i64 0, .bool false, .int .i64 0, .string ⟨#[]⟩, .slice none 0 0, .slice none 0 0]) w := by kernel_rfl
def RCut_va (w : World) (B g c : Nat) (xs : List VA) (e : Ending) (w' : World) : Prop :=
  e = .returned (.slice (some ⟨g, 0, none⟩) xs.length c) ∧ Own w' B 29 6 VA.enc (some ⟨g, 0, none⟩) xs.length c xs ∧ Only g w w'

theorem zero_ma (w : World) : (zeroValue 66).run Tryz.prog w = .ok (.agg #[.string ⟨#[]⟩, .int .i64 0, .bool false, .int .i64 0, .string ⟨#[]⟩, .slice none 0 0, .slice none 0 0]) w := by kernel_rfl
def RCut_ma (w : World) (B g c : Nat) (xs : List MA) (e : Ending) (w' : World) : Prop :=
  e = .returned (.slice (some ⟨g, 0, none⟩) xs.length c) ∧ Own w' B 66 7 MA.enc (some ⟨g, 0, none⟩) xs.length c xs ∧ Only g w w'

end Go.Proofs.YtpgcbehpknghdaaGreatDoor
