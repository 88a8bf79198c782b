/- Several texts in one. (1) Comparing: the first that is not nought, two rows over a function. Conditions: rows of modest size. (2) Comparing two values: the program's. (XValE, the reference's member comparison, is printed out of this by mkvale.py.) Conditions: the values stand in memory as trees. -/
import Derived.Test.YtpgcbehpknghdaaGreatDoorVal1Grp
import Derived.Test.YtpgcbehpknghdaaGreatDoorVal7Grp
import Derived.Test.YtpgcbehpknghdaaGreatDoorVal2Grp
import Derived.Test.YtpgcbehpknghdaaGreatDoorHeldGrp

namespace Go.Proofs.YtpgcbehpknghdaaGreatDoor
open Go.RowKit
set_option linter.unusedVariables false
set_option linter.unusedSimpArgs false

section
variable {β : Type}
end

end Go.Proofs.YtpgcbehpknghdaaGreatDoor

namespace Go.Proofs.YtpgcbehpknghdaaGreatDoor
open Go.RowKit
set_option linter.unusedVariables false
set_option linter.unusedSimpArgs false

theorem Tree.rows {w : World} {G : Nat → Prop} {d : Nat} {x : VA} {v : VT} (h : Tree w G (d + 1) x v) : ∃ (xs : List VA) (ms : List MA), Row w G 29 6 VA.enc x.la x.ln xs ∧ xs.length = v.list.length ∧ (∀ i (h : i < xs.length) (h' : i < v.list.length), Tree w G d xs[i] v.list[i]) ∧
    Row w G 66 7 MA.enc x.ma x.mn ms ∧ ms.length = v.mem.length ∧ ∀ i (h : i < ms.length) (h' : i < v.mem.length), ms[i].name = v.mem[i].1 ∧ Tree w G d ms[i].v v.mem[i].2 := by
  obtain ⟨vs, ps, rfl, ⟨xs, h1, h2, h3⟩, ⟨ms, h4, h5, h6⟩⟩ := h
  exact ⟨xs, ms, h1, h2, h3, h4, h5, h6⟩
--begin1
theorem fz_six (a b c d e f : Int) : fz [a, b, c, d, e, f] = if fz [a, b, c, d] ≠ 0 then fz [a, b, c, d] else if e ≠ 0 then e else f := by
  simp only [fz]
  by_cases ha : a = 0 <;> by_cases hb : b = 0 <;> by_cases hc : c = 0 <;> by_cases hd : d = 0 <;> by_cases he : e = 0 <;> by_cases hf : f = 0 <;> simp [ha, hb, hc, hd, he, hf]
theorem flagN_cmp (a b : Bool) : Lib.compareInt (flagN a) (flagN b) = flagN a - flagN b := by
  cases a <;> cases b <;> rfl
theorem flagN_le (a : Bool) : 0 ≤ flagN a ∧ flagN a ≤ 1 := by
  cases a <;> decide

end Go.Proofs.YtpgcbehpknghdaaGreatDoor
