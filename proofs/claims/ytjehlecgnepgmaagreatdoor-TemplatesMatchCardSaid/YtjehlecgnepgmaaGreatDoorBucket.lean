/- A bucket's arithmetic: what is in it at a moment. Conditions: the numbers of a limit that was checked, moments that rise. -/
import Derived.Test.YtjehlecgnepgmaaGreatDoorLimits
namespace Go.Proofs.YtjehlecgnepgmaaGreatDoor
open Go.RowKit
set_option linter.unusedVariables false
set_option linter.unusedSimpArgs false

theorem quiet_left {P : Program} {f : FuncId} {args : Array Value} {w : World} {n : Nat} {v : Value}
    (h : Calls P f args (w.drewN n) fun e w' => e = .returned v ∧ w.drewN n = w') : Calls P f args (w.drewN n) fun e w'' => e = .returned v ∧ ∃ m, w'' = w.drewN m :=
  h.mono fun _ _ ⟨he, hm⟩ => ⟨he, n, hm.symm⟩

theorem quiet_add {P : Program} {f : FuncId} {args : Array Value} {w : World} {a n : Nat} {v : Value}
    (h : Calls P f args (w.drewN (a + n)) fun e w' => e = .returned v ∧ w.drewN (a + n) = w') :
    Calls P f args (w.drewN (a + n)) fun e w'' => e = .returned v ∧ ∃ m, w'' = w.drewN (a + m) :=
  h.mono fun _ _ ⟨he, hm⟩ => ⟨he, n, hm.symm⟩

/-- a / b, rounded up -/
def upDiv (a b : Int) : Int := if a % b = 0 then a / b else a / b + 1
theorem upDiv_bd (a b : Int) (h0 : 0 ≤ a) (h1 : 1 ≤ b) : 0 ≤ upDiv a b ∧ upDiv a b ≤ a := by
  have h2 := Int.ediv_nonneg h0 (by omega : 0 ≤ b)
  have h3 := Int.mul_ediv_add_emod a b
  have h4 := Int.emod_nonneg a (by omega : b ≠ 0)
  have h5 : a / b ≤ b * (a / b) := by have := Int.mul_le_mul_of_nonneg_right h1 h2; omega
  unfold upDiv
  split <;> omega

/-- the numbers of a bucket's limit that was checked -/
structure BLim (l : Lim) : Prop where
  most : 1 ≤ l.most ∧ l.most ≤ 1000000000
  per : 1 ≤ l.per ∧ l.per ≤ 8640000000
  burst : 1 ≤ l.burst ∧ l.burst ≤ 1000000000
theorem BLim.full {l : Lim} (h : BLim l) : 1 ≤ l.burst * l.per ∧ l.burst * l.per ≤ 8640000000000000000 := by
  have h1 := Int.mul_le_mul h.burst.1 h.per.1 (by omega) (by have := h.burst.1; omega)
  have h2 := Int.mul_le_mul h.burst.2 h.per.2 (by have := h.per.1; omega) (by omega)
  omega

def bucketNow (l : Lim) (at0 level at1 : Int) : Int :=
  if upDiv (l.burst * l.per - level) l.most ≤ at1 - at0 then l.burst * l.per else level + l.most * (at1 - at0)

theorem upDiv_mul (a b d : Int) (h0 : 0 ≤ a) (h1 : 1 ≤ b) (hd : d < upDiv a b) (hd0 : 0 ≤ d) : b * d < a := by
  have h3 := Int.mul_ediv_add_emod a b
  have h4 := Int.emod_nonneg a (by omega : b ≠ 0)
  unfold upDiv at hd
  split at hd
  · have h5 : b * d ≤ b * (a / b - 1) := Int.mul_le_mul_of_nonneg_left (by omega) (by omega)
    rw [Int.mul_sub] at h5
    omega
  · have h5 : b * d ≤ b * (a / b) := Int.mul_le_mul_of_nonneg_left (by omega) (by omega)
    omega

theorem bucketNow_bd (l : Lim) (hl : BLim l) (at0 level at1 : Int) (h0 : 0 ≤ level) (h1 : level ≤ l.burst * l.per) (h3 : at0 ≤ at1) :
    0 ≤ bucketNow l at0 level at1 ∧ bucketNow l at0 level at1 ≤ l.burst * l.per := by
  obtain ⟨hf1, hf2⟩ := hl.full
  obtain ⟨hm1, hm2⟩ := hl.most
  unfold bucketNow
  split
  · omega
  · have hmu := upDiv_mul (l.burst * l.per - level) l.most (at1 - at0) (by omega) hm1 (by omega) (by omega)
    have hmu0 := Int.mul_nonneg (show 0 ≤ l.most by omega) (show 0 ≤ at1 - at0 by omega)
    omega

theorem quiet_drew {P : Program} {f : FuncId} {args : Array Value} {w : World} {n : Nat} {v : Value}
    (h : Calls P f args (w.drewN n) fun e w' => e = .returned v ∧ ∃ m, w' = (w.drewN n).drewN m) : Calls P f args (w.drewN n) fun e w'' => e = .returned v ∧ ∃ m, w'' = w.drewN m :=
  h.mono fun _ _ ⟨he, m, hm⟩ => ⟨he, n + m, by rw [hm, World.drewN_drewN]⟩

end Go.Proofs.YtjehlecgnepgmaaGreatDoor
