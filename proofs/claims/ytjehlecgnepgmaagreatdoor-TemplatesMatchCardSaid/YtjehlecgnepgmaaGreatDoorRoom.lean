/- How much a limit can let in: the program's count and the reference's are one. Conditions: a limit that was checked. -/
import Derived.Test.YtjehlecgnepgmaaGreatDoorBucket
namespace Go.Proofs.YtjehlecgnepgmaaGreatDoor
open Go.RowKit
set_option linter.unusedVariables false
set_option linter.unusedSimpArgs false

theorem limSelf_zero {l : Lim} (h : limSelf l = 0) : (1 ≤ l.kind ∧ l.kind ≤ 4) ∧ (1 ≤ l.most ∧ l.most ≤ 1000000000) ∧ (l.kind = 4 → l.per = 0) ∧ (l.kind ≠ 4 → 1 ≤ l.per ∧ l.per ≤ 8640000000) ∧
    (l.kind ≠ 3 → l.burst = 0) ∧ (l.kind = 3 → 1 ≤ l.burst ∧ l.burst ≤ 1000000000) := by
  unfold limSelf at h
  split at h
  · cases h
  split at h
  · cases h
  split at h
  · cases h
  split at h
  · cases h
  simp at *
  omega

/-- the levels of a bucket that is emptied at each moment, and what came out, moment by moment -/
def drain (l : Lim) : Nat → Int × Int
  | 0 => (l.burst * l.per, 0)
  | k + 1 => let p := drain l k; (min (l.burst * l.per) (p.1 % l.per + l.most), p.2 + p.1 / l.per)

theorem drain_bd (l : Lim) (hl : BLim l) (k : Nat) : 0 ≤ (drain l k).1 ∧ (drain l k).1 ≤ l.burst * l.per ∧ 0 ≤ (drain l k).2 ∧ (drain l k).2 ≤ k * 1000000000 := by
  obtain ⟨hf1, hf2⟩ := hl.full
  obtain ⟨hm1, hm2⟩ := hl.most
  obtain ⟨hp1, hp2⟩ := hl.per
  obtain ⟨hb1, hb2⟩ := hl.burst
  induction k with
  | zero => simp [drain]; omega
  | succ k ih =>
    obtain ⟨h1, h2, h3, h4⟩ := ih
    have h5 := Int.emod_nonneg (drain l k).1 (show l.per ≠ 0 by omega)
    have h6 := Int.ediv_nonneg h1 (show 0 ≤ l.per by omega)
    have h7 : (drain l k).1 / l.per ≤ l.burst := Int.ediv_le_of_le_mul (by omega) h2
    simp only [drain]
    refine ⟨by omega, by omega, by omega, by omega⟩

theorem upDiv_le (a b d : Int) (h1 : 1 ≤ b) (hd : upDiv a b ≤ d) : a ≤ b * d := by
  have h3 := Int.mul_ediv_add_emod a b
  have h4 := Int.emod_nonneg a (by omega : b ≠ 0)
  have h5 := Int.emod_lt_of_pos a (by omega : 0 < b)
  unfold upDiv at hd
  split at hd
  · have h5 : b * (a / b) ≤ b * d := Int.mul_le_mul_of_nonneg_left (by omega) (by omega)
    omega
  · have h5 : b * (a / b + 1) ≤ b * d := Int.mul_le_mul_of_nonneg_left (by omega) (by omega)
    rw [Int.mul_add] at h5
    omega

/-- the program's bucket, emptied at the moment before, is at the next moment as the reference says -/
theorem bucketNow_next (l : Lim) (hl : BLim l) (n : Int) (k : Int) (h0 : 0 ≤ n) (h1 : n ≤ l.burst * l.per) : bucketNow l k (n - n / l.per * l.per) (k + 1) = min (l.burst * l.per) (n % l.per + l.most) := by
  obtain ⟨hf1, hf2⟩ := hl.full
  obtain ⟨hm1, hm2⟩ := hl.most
  obtain ⟨hp1, hp2⟩ := hl.per
  have h2 := Int.mul_ediv_add_emod n l.per
  have h3 : n - n / l.per * l.per = n % l.per := by rw [Int.mul_comm (n / l.per)]; omega
  have h4 := Int.emod_nonneg n (show l.per ≠ 0 by omega)
  have h6 := Int.mul_nonneg (show 0 ≤ l.per by omega) (Int.ediv_nonneg h0 (show 0 ≤ l.per by omega))
  rw [h3]
  unfold bucketNow
  by_cases h : upDiv (l.burst * l.per - n % l.per) l.most ≤ k + 1 - k
  · rw [if_pos h]
    have := upDiv_le _ _ _ hm1 h
    have e : l.most * (k + 1 - k) = l.most := by rw [show k + 1 - k = 1 by omega, Int.mul_one]
    omega
  · rw [if_neg h]
    have := upDiv_mul (l.burst * l.per - n % l.per) l.most (k + 1 - k) (by omega) hm1 (by omega) (by omega)
    have e : l.most * (k + 1 - k) = l.most := by rw [show k + 1 - k = 1 by omega, Int.mul_one]
    omega
theorem bucketNow_first (l : Lim) (hl : BLim l) : bucketNow l 0 (l.burst * l.per) 0 = l.burst * l.per := by
  unfold bucketNow
  rw [if_pos (by simp [upDiv])]

/-- how much a limit can let in within so many moments -/
def roomOf (l : Lim) (long : Nat) : Int :=
  if l.kind = 1 then l.most * (1 + upDiv ((long : Int) - 1) l.per)
  else if l.kind = 2 then l.most * upDiv (long : Int) l.per
  else (drain l long).2

def roomSpec (l : Lim) (long : Int) : Int × Int :=
  if limsFault [l] ≠ 0 then (0, limsFault [l]) else if l.kind = 4 then (0, 10) else if ¬ (1 ≤ long ∧ long ≤ 100000) then (0, 1) else (roomOf l long.toNat, 0)

theorem limsFault_one {l : Lim} (h : limsFault [l] = 0) : isKey l.key = true ∧ limSelf l = 0 := by
  simp [limsFault, firstFault, limAt] at h
  split at h
  · cases h
  · rename_i hk
    exact ⟨by simpa using hk, h⟩

theorem BLim.of_fault {l : Lim} (h : limsFault [l] = 0) (h3 : l.kind = 3) : BLim l := by
  obtain ⟨_, h⟩ := limsFault_one h
  obtain ⟨a, b, c, d, e, f⟩ := limSelf_zero h
  exact ⟨b, d (by omega), f h3⟩

theorem upDiv_unique (a b j : Int) (h0 : 0 ≤ a) (h1 : 1 ≤ b) (hj : 0 ≤ j) (h2 : a ≤ b * j) (h3 : j = 0 ∨ b * (j - 1) < a) : upDiv a b = j := by
  have hb := upDiv_bd a b h0 h1
  by_cases hlt : upDiv a b < j
  · have h4 := upDiv_le a b (j - 1) h1 (by omega)
    omega
  · by_cases hgt : j < upDiv a b
    · have := upDiv_mul a b j h0 h1 hgt hj
      omega
    · omega
theorem upDiv_quo (a b : Int) (h0 : 0 ≤ a) (h1 : 1 ≤ b) : (a + b - 1) / b = upDiv a b := by
  have h2 := Int.mul_ediv_add_emod (a + b - 1) b
  have h3 := Int.emod_nonneg (a + b - 1) (show b ≠ 0 by omega)
  have h4 := Int.emod_lt_of_pos (a + b - 1) (show 0 < b by omega)
  have h5 := Int.ediv_nonneg (show 0 ≤ a + b - 1 by omega) (show 0 ≤ b by omega)
  refine (upDiv_unique a b _ h0 h1 h5 (by omega) (.inr ?_)).symm
  rw [Int.mul_sub]
  omega

end Go.Proofs.YtjehlecgnepgmaaGreatDoor
