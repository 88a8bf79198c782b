/- Numbers as they are written: both readings are one function of the string. Conditions: the string is short enough to be counted; strconv's table. -/
import Derived.Test.YtinnckbffblecaaGreatDoorText1
namespace Go.Proofs.YtinnckbffblecaaGreatDoor
open Go.RowKit
set_option linter.unusedVariables false
set_option linter.unusedSimpArgs false

def isDig (c : UInt8) : Bool := decide (48 ≤ c.toNat) && decide (c.toNat ≤ 57)
/-- without the sign -/
def numD (s : ByteArray) : List UInt8 := Lib.trimPrefix s.data.toList [45]
def numOk (s : ByteArray) : Bool := !(numD s).isEmpty && decide ((numD s).length ≤ 10) && (numD s).all isDig && (decide ((numD s).head? ≠ some 48) || decide (s.data.toList = [48]))
def numV (s : ByteArray) : Int := (Lib.atoi s.data.toList).getD 0

theorem digitVal_some {c : UInt8} (h : isDig c = true) : Lib.digitVal c = some (c.toNat - 48) := by
  unfold isDig at h
  unfold Lib.digitVal
  simp at h
  rw [if_pos h]
theorem decFrom_digs {l : List UInt8} (h : l.all isDig = true) (acc : Nat) : ∃ m, Lib.decFrom acc l = some m := by
  induction l generalizing acc with
  | nil => exact ⟨acc, rfl⟩
  | cons b r ih =>
    simp only [List.all_cons, Bool.and_eq_true] at h
    simp only [Lib.decFrom, digitVal_some h.1]
    exact ih h.2 _
theorem decFrom_snoc {l : List UInt8} {acc m : Nat} (h : Lib.decFrom acc l = some m) {b : UInt8} (hb : isDig b = true) : Lib.decFrom acc (l ++ [b]) = some (m * 10 + (b.toNat - 48)) := by
  induction l generalizing acc with
  | nil =>
    simp only [Lib.decFrom, Option.some.injEq] at h
    subst h
    simp [Lib.decFrom, digitVal_some hb]
  | cons a r ih =>
    simp only [Lib.decFrom, List.cons_append] at h ⊢
    cases e : Lib.digitVal a with
    | none => rw [e] at h; cases h
    | some d => rw [e] at h; simp only at h ⊢; exact ih h
theorem decFrom_ge {l : List UInt8} {acc m : Nat} (h : Lib.decFrom acc l = some m) : acc ≤ m := by
  induction l generalizing acc with
  | nil => simp only [Lib.decFrom, Option.some.injEq] at h; omega
  | cons a r ih =>
    simp only [Lib.decFrom] at h
    cases e : Lib.digitVal a with
    | none => rw [e] at h; cases h
    | some d => rw [e] at h; simp only at h; have := ih h; omega
theorem decDigits_head {u : Nat} {b : UInt8} {r : List UInt8} (h : Lib.decDigits u = b :: r) (hb : b = 48) : u = 0 := by
  induction u using Nat.strongRecOn generalizing r with
  | _ u ih =>
    by_cases hu : u < 10
    · rw [Lib.decDigits, dif_pos hu] at h
      injection h with h1 h2
      rw [hb] at h1
      have h3 : (48 + u) % 256 = 48 := by
        have := congrArg UInt8.toNat h1
        simpa using this
      omega
    · rw [Lib.decDigits, dif_neg hu] at h
      cases e : Lib.decDigits (u / 10) with
      | nil =>
        have h1 := Lib.decDigits_length (u / 10)
        have h2 := Lib.nDigits_pos (u / 10)
        rw [e] at h1
        simp only [List.length_nil] at h1
        omega
      | cons c t =>
        rw [e] at h
        injection h with h1 h2
        subst h1
        have := ih (u / 10) (by omega) e
        omega
theorem decDigits_back {l : List UInt8} (h : l.all isDig = true) (hh : l.head? ≠ some 48) {m : Nat} (hm : Lib.decFrom 0 l = some m) : l = [] ∨ Lib.decDigits m = l := by
  suffices key : ∀ (n : Nat) (l : List UInt8), l.length = n → l.all isDig = true → l.head? ≠ some 48 → ∀ m, Lib.decFrom 0 l = some m → l = [] ∨ Lib.decDigits m = l from key _ l rfl h hh m hm
  clear hm hh h m l
  intro n
  induction n with
  | zero => intro l hl _ _ _ _; exact .inl (List.eq_nil_of_length_eq_zero hl)
  | succ n ih =>
    intro l0 hl h hh m hm
    right
    rcases List.eq_nil_or_concat l0 with rfl | ⟨l, b, hlb⟩
    · cases hl
    rw [List.concat_eq_append] at hlb
    subst hlb
    have hd : l.all isDig = true ∧ isDig b = true := by simpa [List.all_append] using h
    have hbb := hd.2
    unfold isDig at hbb
    simp at hbb
    obtain ⟨m', hm'⟩ := decFrom_digs hd.1 0
    have hs := decFrom_snoc hm' hd.2
    rw [hs] at hm
    injection hm with hm
    subst hm
    have hof : UInt8.ofNat (48 + (b.toNat - 48)) = b := by
      apply UInt8.toNat_inj.1
      simp
      omega
    cases l with
    | nil =>
      simp only [Lib.decFrom, Option.some.injEq] at hm'
      subst hm'
      rw [Lib.decDigits, dif_pos (by omega)]
      simp only [Nat.zero_mul, Nat.zero_add, List.nil_append]
      rw [hof]
    | cons a t =>
      have ha : (a :: t).head? ≠ some 48 := by simpa using hh
      rcases ih (a :: t) (by simpa using hl) hd.1 ha m' hm' with h1 | h1
      · cases h1
      · have hge : 1 ≤ m' := by
          simp only [Lib.decFrom] at hm'
          have hda : isDig a = true := by have := hd.1; simp at this; exact this.1
          rw [digitVal_some hda] at hm'
          have := decFrom_ge hm'
          unfold isDig at hda
          simp at hda ha
          have hne : a.toNat ≠ 48 := fun e => ha (UInt8.toNat_inj.1 (by simpa using e))
          omega
        have h10 : (m' * 10 + (b.toNat - 48)) / 10 = m' := by omega
        have h11 : (m' * 10 + (b.toNat - 48)) % 10 = b.toNat - 48 := by omega
        rw [Lib.decDigits, dif_neg (by omega), h10, h11, h1, hof]
/-- digits are written back just where no nought leads -/
theorem decDigits_iff {l : List UInt8} (h : l.all isDig = true) (hne : l ≠ []) {m : Nat} (hm : Lib.decFrom 0 l = some m) : Lib.decDigits m = l ↔ (l.head? ≠ some 48 ∨ l = [48]) := by
  constructor
  · intro he
    by_cases hh : l.head? = some 48
    · right
      cases l with
      | nil => cases hh
      | cons a t =>
        injection hh with hh
        have hz := decDigits_head he hh
        subst hz
        rw [← he]
        simp [Lib.decDigits]
    · exact .inl hh
  · rintro (hh | rfl)
    · exact (decDigits_back h hh hm).resolve_left hne
    · simp only [Lib.decFrom, Lib.digitVal] at hm
      simp at hm
      subst hm
      simp [Lib.decDigits]

theorem numD_cases (s : ByteArray) : (∃ r, s.data.toList = 45 :: r ∧ numD s = r) ∨ (s.data.toList.head? ≠ some 45 ∧ numD s = s.data.toList) := by
  unfold numD Lib.trimPrefix Lib.hasPrefix
  cases h : s.data.toList with
  | nil => right; simp
  | cons a t =>
    by_cases ha : a = 45
    · subst ha; left; exact ⟨t, rfl, by simp⟩
    · right
      refine ⟨by simpa using ha, ?_⟩
      rw [if_neg]
      simp [List.isPrefixOf]
      exact fun e => absurd e.symm ha
theorem num_atoi {s : ByteArray} (hne : numD s ≠ []) (hd : (numD s).all isDig = true) : ∃ m, Lib.decFrom 0 (numD s) = some m ∧ Lib.atoi s.data.toList = some (if s.data.toList.head? = some 45 then -(m : Int) else m) := by
  obtain ⟨m, hm⟩ := decFrom_digs hd 0
  refine ⟨m, hm, ?_⟩
  rcases numD_cases s with ⟨r, h1, h2⟩ | ⟨h1, h2⟩
  · rw [h1]
    rw [h2] at hm hne
    have he : r.isEmpty = false := by cases r with | nil => exact absurd rfl hne | cons _ _ => rfl
    simp [Lib.atoi, Lib.decNat, he, hm]
  · rw [h2] at hm hne hd
    rw [if_neg h1]
    cases e : s.data.toList with
    | nil => exact absurd e hne
    | cons a t =>
      rw [e] at hm hd h1
      have ha : isDig a = true := by simp at hd; exact hd.1
      unfold isDig at ha
      simp at ha
      have h45 : (a == 45) = false := by simpa using h1
      have h43 : (a == 43) = false := by
        simp only [beq_eq_false_iff_ne]
        rintro rfl
        exact absurd ha.1 (by decide)
      simp [Lib.atoi, h45, h43, Lib.decNat, hm]
/-- what the reference asks: that it is written back -/
theorem num_itoa {s : ByteArray} (hne : numD s ≠ []) (hd : (numD s).all isDig = true) : decide (Lib.itoa (numV s) = s.data.toList) = (decide ((numD s).head? ≠ some 48) || decide (s.data.toList = [48])) := by
  obtain ⟨m, hm, ha⟩ := num_atoi hne hd
  have hiff := decDigits_iff hd hne hm
  unfold numV
  rw [ha]
  simp only [Option.getD_some]
  rw [Bool.eq_iff_iff]
  simp only [decide_eq_true_eq, Bool.or_eq_true]
  rcases numD_cases s with ⟨r, h1, h2⟩ | ⟨h1, h2⟩
  · rw [h2] at hiff hne hm hd ⊢
    rw [h1]
    simp only [List.head?_cons, if_true]
    by_cases hz : m = 0
    · subst hz
      have h0 : Lib.decDigits 0 = [48] := by simp [Lib.decDigits]
      have hno : ¬ (Lib.itoa (-((0 : Nat) : Int)) = 45 :: r) := by
        simp [Lib.itoa, h0]
      constructor
      · intro h; exact absurd h hno
      · rintro (h | h)
        · have := hiff.2 (.inl h)
          rw [h0] at this
          rw [← this] at h
          exact absurd rfl h
        · injection h with h _
          exact absurd h (by decide)
    · have hi : Lib.itoa (-((m : Nat) : Int)) = 45 :: Lib.decDigits m := by
        unfold Lib.itoa
        rw [if_pos (by omega)]
        simp
      rw [hi]
      constructor
      · intro h
        injection h with _ h
        rcases hiff.1 h with h | h
        · exact .inl h
        · subst h
          simp [Lib.decFrom, Lib.digitVal] at hm
          omega
      · rintro (h | h)
        · rw [hiff.2 (.inl h)]
        · injection h with h _
          exact absurd h (by decide)
  · rw [h2] at hiff ⊢
    rw [if_neg h1]
    have hi : Lib.itoa ((m : Nat) : Int) = Lib.decDigits m := by
      unfold Lib.itoa
      rw [if_neg (by omega)]
      simp
    rw [hi]
    exact hiff

end Go.Proofs.YtinnckbffblecaaGreatDoor
