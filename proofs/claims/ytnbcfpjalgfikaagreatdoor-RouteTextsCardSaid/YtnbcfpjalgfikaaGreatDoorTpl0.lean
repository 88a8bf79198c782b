/- The law's own helper: package route reads templates (routed). Conditions: the library's variable on searching is an int. -/
import Derived.Test.YtnbcfpjalgfikaaGreatDoorTpl3
namespace Go.Proofs.YtnbcfpjalgfikaaGreatDoor
open Go.RowKit
set_option linter.unusedVariables false
set_option linter.unusedSimpArgs false

theorem tplOf_a : tplOf ⟨#[47, 97]⟩ = (0, [⟨1, ⟨#[97]⟩⟩]) := by kernel_rfl
set_option maxHeartbeats 1000000 in
theorem routed_true (w : World) (hx : MaxLn w) :
    Calls Tryz.prog 12 #[] w fun e w' => e = .returned (.bool true) ∧ New w w' := by
  have hp := route_parseTemplate ⟨#[47, 97]⟩ w (by decide) hx
  rw [tplOf_a] at hp
  go_enter Tryz.func12, Tryz.ntmps12
  go_wp2_with fail
  refine hp.mono ?_
  clear hp
  rintro e w2 ⟨A, n, c, rfl, hsl, hm, hn⟩
  have h1 : 1 = n := hsl.1
  subst h1
  obtain ⟨g, o, rfl, htb, hc⟩ := hsl.2 (by decide)
  have c0 := hc 0 (by decide) 0 (by decide)
  have c1 := hc 0 (by decide) 1 (by decide)
  have hgl := htb.lt
  simp only [List.getElem_cons_zero, PartD.enc, Nat.zero_mul, Nat.add_zero, Nat.zero_add] at c0 c1
  have HM := Lib.hid hm
  clear hc htb hsl hm
  go_wp2_with fail
  go_ret
  exact ⟨rfl, HM.out⟩

end Go.Proofs.YtnbcfpjalgfikaaGreatDoor
