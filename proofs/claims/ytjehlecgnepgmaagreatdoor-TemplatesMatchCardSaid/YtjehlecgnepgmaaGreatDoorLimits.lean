/- Limits: the program's checks and the reference's are one function of the limits. Conditions: the keys are no longer than an int can count. -/
import Derived.Test.YtjehlecgnepgmaaGreatDoorKeys
import Derived.Test.YtjehlecgnepgmaaGreatDoorMake
namespace Go.Proofs.YtjehlecgnepgmaaGreatDoor
open Go.RowKit
set_option linter.unusedVariables false
set_option linter.unusedSimpArgs false

/-- what is wrong with a limit by itself, its key aside -/
def limSelf (l : Lim) : Int :=
  if !(decide (1 ≤ l.kind) && decide (l.kind ≤ 4)) then 4
  else if !(decide (1 ≤ l.most) && decide (l.most ≤ 1000000000)) then 1
  else if (l.kind = 4 ∧ l.per ≠ 0) ∨ (l.kind ≠ 4 ∧ ¬ (1 ≤ l.per ∧ l.per ≤ 8640000000)) then 1
  else if (l.kind ≠ 3 ∧ l.burst ≠ 0) ∨ (l.kind = 3 ∧ ¬ (1 ≤ l.burst ∧ l.burst ≤ 1000000000)) then 1
  else 0

theorem outside_any (n a b : Int) (w : World) :
    Calls Tryz.prog 69 #[.int .i64 n, .int .i64 a, .int .i64 b] w fun e w' => e = .returned (.bool (!(decide (a ≤ n) && decide (n ≤ b)))) ∧ w = w' := by
  by_cases h : n < a
  · go_enter Tryz.func69, Tryz.ntmps69
    go_wp2
    go_ret
    refine ⟨?_, rfl⟩
    have : ¬ a ≤ n := by omega
    simp [this]
  · have h' : decide (n < a) = false := by simpa using h
    have h2 : decide (a ≤ n) = true := by simp; omega
    go_enter Tryz.func69, Tryz.ntmps69
    go_wp2
    go_ret
    refine ⟨?_, rfl⟩
    refine ret_bool ?_
    rw [Bool.eq_iff_iff]
    simp

theorem ref1_in (n a b : Int) (w : World) :
    Calls Tryz.prog 39 #[.int .i64 n, .int .i64 a, .int .i64 b] w fun e w' => e = .returned (.bool (decide (a ≤ n) && decide (n ≤ b))) ∧ w = w' := by
  by_cases h : a ≤ n
  · go_enter Tryz.func39, Tryz.ntmps39
    go_wp2
    go_ret
    exact ⟨by simp [h], rfl⟩
  · have h' : decide (a ≤ n) = false := by simpa using h
    go_enter Tryz.func39, Tryz.ntmps39
    go_wp2
    go_ret
    exact ⟨by simp [h'], rfl⟩

def limAlone (l : Lim) : Int := if isKey l.key then limSelf l else 5

/-- the model's word for 'a <= b' on strings -/
def strLe (a b : ByteArray) : Bool := Op.bytesLess a.toList b.toList || a.toList == b.toList
def limAt (ls : List Lim) (i : Nat) : Int :=
  match ls[i]? with
  | none => 0
  | some l => if !isKey l.key then 5 else
    if decide (0 < i) && strLe l.key ((ls[i-1]?.map (·.key)).getD ⟨#[]⟩) then 7 else limSelf l

theorem limAt_eq {ls : List Lim} {i : Nat} {l : Lim} (h : ls[i]? = some l) (p : ByteArray) (hp : 0 < i → ls[i-1]?.map (·.key) = some p) :
    limAt ls i = if !isKey l.key then 5 else if decide (0 < i) && strLe l.key p then 7 else limSelf l := by
  unfold limAt
  rw [h]
  by_cases hi : 0 < i
  · simp [hp hi]
  · simp [hi]

/-- the first error of a list of errors, by places -/
def firstFault (f : Nat → Int) : Nat → Int
  | 0 => 0
  | k + 1 => if firstFault f k = 0 then f k else firstFault f k
def limsFault (ls : List Lim) : Int := if 20 < ls.length then 2 else firstFault (limAt ls) ls.length
theorem firstFault_stop {f : Nat → Int} {k n : Nat} (h0 : firstFault f k = 0) (h : f k ≠ 0) (hk : k < n) : firstFault f n = f k := by
  induction n with
  | zero => omega
  | succ n ih =>
    unfold firstFault
    by_cases e : k = n
    · subst e; rw [if_pos h0]
    · rw [ih (by omega), if_neg h]
theorem firstFault_zero {f : Nat → Int} {k : Nat} (h0 : firstFault f k = 0) (h : f k = 0) : firstFault f (k + 1) = 0 := by
  unfold firstFault; rw [if_pos h0, h]

end Go.Proofs.YtjehlecgnepgmaaGreatDoor
