/- Several texts in one. (1) Keys: the program's test and the reference's test are one function of the string. Conditions: none but that a string is no longer than an int can count. (2) Numbers as they are written, of at most so many digits: both readings are one function of the string. Conditions: at most 17 digits; the string is short enough to be counted; strconv's table. -/
import Derived.Test.YtjmnkdkdjnmejaaGreatDoorVal1Grp
import Derived.Test.YtjmnkdkdjnmejaaGreatDoorShelf
import Derived.BigGuardPart
import Derived.Test.YtjmnkdkdjnmejaaGreatDoorVal2Grp
import Derived.Lib.AtoiErrMem
import Derived.BigQuiet

namespace Go.Proofs.YtjmnkdkdjnmejaaGreatDoor
open Go.RowKit
set_option linter.unusedVariables false
set_option linter.unusedSimpArgs false

/-- may this byte stand at place i of a key? -/
def okAt (i : Nat) (c : Nat) : Bool := (decide (97 ≤ c) && decide (c ≤ 122)) || (decide (0 < i) && ((decide (48 ≤ c) && decide (c ≤ 57)) || decide (c = 45) || decide (c = 95)))
def okTo (s : ByteArray) (k : Nat) : Bool := (List.range k).all fun i => okAt i (s[i]?.getD 0).toNat
def isKey (s : ByteArray) : Bool := okTo s s.size && decide (s.size ≠ 0) && decide (s.size ≤ 40)

/-- does each of the first k bytes of s stand in t? -/
def onlyTo (s t : ByteArray) (k : Nat) : Bool := (List.range k).all fun i => decide (0 ≤ Lib.indexByte t.data.toList (s[i]?.getD 0))
theorem onlyTo_succ (s t : ByteArray) (k : Nat) : onlyTo s t (k + 1) = (onlyTo s t k && decide (0 ≤ Lib.indexByte t.data.toList (s[k]?.getD 0))) := by
  simp [onlyTo, List.range_succ]
theorem onlyTo_false {s t : ByteArray} {k n : Nat} (h : onlyTo s t k = false) (hk : k ≤ n) : onlyTo s t n = false := by
  induction n with
  | zero => obtain rfl : k = 0 := by omega
            exact h
  | succ n ih =>
    by_cases e : k = n + 1
    · subst e; exact h
    · rw [onlyTo_succ, ih (by omega)]; rfl

set_option maxHeartbeats 1000000 in
theorem ref_only (s t : ByteArray) (w : World) (hs : s.size ≤ maxLen) :
    Calls Tryz.prog 120 #[.string s, .string t] w fun e w' => e = .returned (.bool (onlyTo s t s.size)) ∧ w = w' := by
  unfold maxLen at hs
  go_enter Tryz.func120, Tryz.ntmps120
  go_wp2
  go_loop [5, 8] (fun _ i => ∃ k : Nat, k ≤ s.size ∧ i = .int .i64 k ∧ onlyTo s t k = true) (fun _ i => s.size - (intOf i).toNat)
  case atStart => exact ⟨0, Nat.zero_le _, rfl, rfl⟩
  case round =>
    obtain ⟨k, hk, rfl, hto⟩ := hrel
    have HT := hId hto
    clear hto
    by_cases hlt : k < s.size
    · have hg : s[k]?.getD 0 = s[k] := by simp [hlt]
      have HG := hId hg
      clear hg
      go_wp2_with fail
      refine (Tryz.strings_IndexByte t _ _).mono ?_
      rintro e w' ⟨rfl, rfl⟩
      have hcv : ((s[k].toNat : Int)).toNat.toUInt8 = s[k] := by simp
      rw [hcv]
      clear hcv
      go_wp2_with fail
      all_goals (try go_ret)
      · refine ⟨?_, rfl⟩
        rw [onlyTo_false (n := s.size) (show onlyTo s t (k + 1) = false by rw [onlyTo_succ, HT.out, HG.out]; simp; assumption) (by omega)]; rfl
      · refine ⟨⟨k + 1, by omega, by go_num, ?_⟩, by simp [intOf]; omega⟩
        rw [onlyTo_succ, HT.out, HG.out]; simp; assumption
    · obtain rfl : k = s.size := by omega
      go_wp2_with fail
      all_goals go_ret
      exact ⟨by rw [HT.out]; rfl, rfl⟩

theorem of_byte {p : UInt8 → Prop} (h : ∀ n, n < 256 → p (UInt8.ofNat n)) (c : UInt8) : p c := by
  have := h c.toNat (by have := c.toNat_lt; simpa using this)
  simpa using this

theorem bytes_new (w : World) (e : TypeId) (t : ByteArray) : New w (Lib.bytesWorld w e t) := Mod.of_below (Lib.bytesWorld_below w e t)

def isDig (c : UInt8) : Bool := decide (48 ≤ c.toNat) && decide (c.toNat ≤ 57)
/-- without the sign -/
def numD (s : ByteArray) : List UInt8 := Lib.trimPrefix s.data.toList [45]
def numOk (m : Nat) (s : ByteArray) : Bool := !(numD s).isEmpty && decide ((numD s).length ≤ m) && (numD s).all isDig && (decide ((numD s).head? ≠ some 48) || decide (s.data.toList = [48]))
def numV (s : ByteArray) : Int := (Lib.atoi s.data.toList).getD 0

theorem digitVal_some {c : UInt8} (h : isDig c = true) : Lib.digitVal c = some (c.toNat - 48) := by
  unfold isDig at h
  unfold Lib.digitVal
  simp at h
  rw [if_pos h]
theorem decFrom_digs {l : List UInt8} (h : l.all isDig = true) (acc : Nat) : ∃ m, Lib.decFrom acc l = some m := by
  induction l generalizing acc with
  | nil => exact ⟨acc, rfl⟩
  | cons b r ih =>
    simp only [List.all_cons, Bool.and_eq_true] at h
    simp only [Lib.decFrom, digitVal_some h.1]
    exact ih h.2 _
theorem decFrom_snoc {l : List UInt8} {acc m : Nat} (h : Lib.decFrom acc l = some m) {b : UInt8} (hb : isDig b = true) : Lib.decFrom acc (l ++ [b]) = some (m * 10 + (b.toNat - 48)) := by
  induction l generalizing acc with
  | nil =>
    simp only [Lib.decFrom, Option.some.injEq] at h
    subst h
    simp [Lib.decFrom, digitVal_some hb]
  | cons a r ih =>
    simp only [Lib.decFrom, List.cons_append] at h ⊢
    cases e : Lib.digitVal a with
    | none => rw [e] at h; cases h
    | some d => rw [e] at h; simp only at h ⊢; exact ih h
theorem decFrom_ge {l : List UInt8} {acc m : Nat} (h : Lib.decFrom acc l = some m) : acc ≤ m := by
  induction l generalizing acc with
  | nil => simp only [Lib.decFrom, Option.some.injEq] at h; omega
  | cons a r ih =>
    simp only [Lib.decFrom] at h
    cases e : Lib.digitVal a with
    | none => rw [e] at h; cases h
    | some d => rw [e] at h; simp only at h; have := ih h; omega
theorem decDigits_head {u : Nat} {b : UInt8} {r : List UInt8} (h : Lib.decDigits u = b :: r) (hb : b = 48) : u = 0 := by
  induction u using Nat.strongRecOn generalizing r with
  | _ u ih =>
    by_cases hu : u < 10
    · rw [Lib.decDigits, dif_pos hu] at h
      injection h with h1 h2
      rw [hb] at h1
      have h3 : (48 + u) % 256 = 48 := by
        have := congrArg UInt8.toNat h1
        simpa using this
      omega
    · rw [Lib.decDigits, dif_neg hu] at h
      cases e : Lib.decDigits (u / 10) with
      | nil =>
        have h1 := Lib.decDigits_length (u / 10)
        have h2 := Lib.nDigits_pos (u / 10)
        rw [e] at h1
        simp only [List.length_nil] at h1
        omega
      | cons c t =>
        rw [e] at h
        injection h with h1 h2
        subst h1
        have := ih (u / 10) (by omega) e
        omega
theorem decDigits_back {l : List UInt8} (h : l.all isDig = true) (hh : l.head? ≠ some 48) {m : Nat} (hm : Lib.decFrom 0 l = some m) : l = [] ∨ Lib.decDigits m = l := by
  suffices key : ∀ (n : Nat) (l : List UInt8), l.length = n → l.all isDig = true → l.head? ≠ some 48 → ∀ m, Lib.decFrom 0 l = some m → l = [] ∨ Lib.decDigits m = l from key _ l rfl h hh m hm
  clear hm hh h m l
  intro n
  induction n with
  | zero => intro l hl _ _ _ _; exact .inl (List.eq_nil_of_length_eq_zero hl)
  | succ n ih =>
    intro l0 hl h hh m hm
    right
    rcases List.eq_nil_or_concat l0 with rfl | ⟨l, b, hlb⟩
    · cases hl
    rw [List.concat_eq_append] at hlb
    subst hlb
    have hd : l.all isDig = true ∧ isDig b = true := by simpa [List.all_append] using h
    have hbb := hd.2
    unfold isDig at hbb
    simp at hbb
    obtain ⟨m', hm'⟩ := decFrom_digs hd.1 0
    have hs := decFrom_snoc hm' hd.2
    rw [hs] at hm
    injection hm with hm
    subst hm
    have hof : UInt8.ofNat (48 + (b.toNat - 48)) = b := by
      apply UInt8.toNat_inj.1
      simp
      omega
    cases l with
    | nil =>
      simp only [Lib.decFrom, Option.some.injEq] at hm'
      subst hm'
      rw [Lib.decDigits, dif_pos (by omega)]
      simp only [Nat.zero_mul, Nat.zero_add, List.nil_append]
      rw [hof]
    | cons a t =>
      have ha : (a :: t).head? ≠ some 48 := by simpa using hh
      rcases ih (a :: t) (by simpa using hl) hd.1 ha m' hm' with h1 | h1
      · cases h1
      · have hge : 1 ≤ m' := by
          simp only [Lib.decFrom] at hm'
          have hda : isDig a = true := by have := hd.1; simp at this; exact this.1
          rw [digitVal_some hda] at hm'
          have := decFrom_ge hm'
          unfold isDig at hda
          simp at hda ha
          have hne : a.toNat ≠ 48 := fun e => ha (UInt8.toNat_inj.1 (by simpa using e))
          omega
        have h10 : (m' * 10 + (b.toNat - 48)) / 10 = m' := by omega
        have h11 : (m' * 10 + (b.toNat - 48)) % 10 = b.toNat - 48 := by omega
        rw [Lib.decDigits, dif_neg (by omega), h10, h11, h1, hof]
/-- digits are written back just where no nought leads -/
theorem decDigits_iff {l : List UInt8} (h : l.all isDig = true) (hne : l ≠ []) {m : Nat} (hm : Lib.decFrom 0 l = some m) : Lib.decDigits m = l ↔ (l.head? ≠ some 48 ∨ l = [48]) := by
  constructor
  · intro he
    by_cases hh : l.head? = some 48
    · right
      cases l with
      | nil => cases hh
      | cons a t =>
        injection hh with hh
        have hz := decDigits_head he hh
        subst hz
        rw [← he]
        simp [Lib.decDigits]
    · exact .inl hh
  · rintro (hh | rfl)
    · exact (decDigits_back h hh hm).resolve_left hne
    · simp only [Lib.decFrom, Lib.digitVal] at hm
      simp at hm
      subst hm
      simp [Lib.decDigits]

theorem numD_cases (s : ByteArray) : (∃ r, s.data.toList = 45 :: r ∧ numD s = r) ∨ (s.data.toList.head? ≠ some 45 ∧ numD s = s.data.toList) := by
  unfold numD Lib.trimPrefix Lib.hasPrefix
  cases h : s.data.toList with
  | nil => right; simp
  | cons a t =>
    by_cases ha : a = 45
    · subst ha; left; exact ⟨t, rfl, by simp⟩
    · right
      refine ⟨by simpa using ha, ?_⟩
      rw [if_neg]
      simp [List.isPrefixOf]
      exact fun e => absurd e.symm ha
theorem num_atoi {s : ByteArray} (hne : numD s ≠ []) (hd : (numD s).all isDig = true) : ∃ m, Lib.decFrom 0 (numD s) = some m ∧ Lib.atoi s.data.toList = some (if s.data.toList.head? = some 45 then -(m : Int) else m) := by
  obtain ⟨m, hm⟩ := decFrom_digs hd 0
  refine ⟨m, hm, ?_⟩
  rcases numD_cases s with ⟨r, h1, h2⟩ | ⟨h1, h2⟩
  · rw [h1]
    rw [h2] at hm hne
    have he : r.isEmpty = false := by cases r with | nil => exact absurd rfl hne | cons _ _ => rfl
    simp [Lib.atoi, Lib.decNat, he, hm]
  · rw [h2] at hm hne hd
    rw [if_neg h1]
    cases e : s.data.toList with
    | nil => exact absurd e hne
    | cons a t =>
      rw [e] at hm hd h1
      have ha : isDig a = true := by simp at hd; exact hd.1
      unfold isDig at ha
      simp at ha
      have h45 : (a == 45) = false := by simpa using h1
      have h43 : (a == 43) = false := by
        simp only [beq_eq_false_iff_ne]
        rintro rfl
        exact absurd ha.1 (by decide)
      simp [Lib.atoi, h45, h43, Lib.decNat, hm]
/-- what the reference asks: that it is written back -/
theorem num_itoa {s : ByteArray} (hne : numD s ≠ []) (hd : (numD s).all isDig = true) : decide (Lib.itoa (numV s) = s.data.toList) = (decide ((numD s).head? ≠ some 48) || decide (s.data.toList = [48])) := by
  obtain ⟨m, hm, ha⟩ := num_atoi hne hd
  have hiff := decDigits_iff hd hne hm
  unfold numV
  rw [ha]
  simp only [Option.getD_some]
  rw [Bool.eq_iff_iff]
  simp only [decide_eq_true_eq, Bool.or_eq_true]
  rcases numD_cases s with ⟨r, h1, h2⟩ | ⟨h1, h2⟩
  · rw [h2] at hiff hne hm hd ⊢
    rw [h1]
    simp only [List.head?_cons, if_true]
    by_cases hz : m = 0
    · subst hz
      have h0 : Lib.decDigits 0 = [48] := by simp [Lib.decDigits]
      have hno : ¬ (Lib.itoa (-((0 : Nat) : Int)) = 45 :: r) := by
        simp [Lib.itoa, h0]
      constructor
      · intro h; exact absurd h hno
      · rintro (h | h)
        · have := hiff.2 (.inl h)
          rw [h0] at this
          rw [← this] at h
          exact absurd rfl h
        · injection h with h _
          exact absurd h (by decide)
    · have hi : Lib.itoa (-((m : Nat) : Int)) = 45 :: Lib.decDigits m := by
        unfold Lib.itoa
        rw [if_pos (by omega)]
        simp
      rw [hi]
      constructor
      · intro h
        injection h with _ h
        rcases hiff.1 h with h | h
        · exact .inl h
        · subst h
          simp [Lib.decFrom, Lib.digitVal] at hm
          omega
      · rintro (h | h)
        · rw [hiff.2 (.inl h)]
        · injection h with h _
          exact absurd h (by decide)
  · rw [h2] at hiff ⊢
    rw [if_neg h1]
    have hi : Lib.itoa ((m : Nat) : Int) = Lib.decDigits m := by
      unfold Lib.itoa
      rw [if_neg (by omega)]
      simp
    rw [hi]
    exact hiff


def RNum (m : Nat) (s : ByteArray) (w : World) (e : Ending) (w' : World) : Prop := ∃ v, e = .returned (.tuple #[.int .i64 v, .bool (numOk m s)]) ∧ (numOk m s = true → v = numV s) ∧ New w w'
theorem numOk_false {m : Nat} {s : ByteArray} {w w' : World} {v : Int} (h : numOk m s = false) (hm : New w w') : RNum m s w (.returned (.tuple #[.int .i64 v, .bool false])) w' := ⟨v, by rw [h], (fun h2 => by rw [h] at h2; cases h2), hm⟩

set_option maxHeartbeats 2000000 in
theorem kit_number (m : Nat) (hm17 : m ≤ 17) (s : ByteArray) (w : World) (hs : s.size ≤ 1000000) :
    Calls Tryz.prog 101 #[.string s, .int .i64 (m : Int)] w (RNum m s w) := by
  have htp := Tryz.strings_TrimPrefix s ⟨#[45]⟩ w
  generalize hD : (⟨(Lib.trimPrefix s.data.toList (⟨#[45]⟩ : ByteArray).data.toList).toArray⟩ : ByteArray) = D at *
  have hDl : D.data.toList = numD s := by subst hD; rfl
  have hDt : D.toList = numD s := by rw [ByteArray.toList_eq]; exact hDl
  have hst : s.toList = s.data.toList := ByteArray.toList_eq _
  have hsz : D.size = (numD s).length := by rw [← hDl]; rfl
  have HDL := hId hDl
  have HDT := hId hDt
  have HST := hId hst
  have HSZ := hId hsz
  have hDs : D.size ≤ s.size := by
    have h1 : (numD s).length ≤ s.data.toList.length := by
      rcases numD_cases s with ⟨r, h1, h2⟩ | ⟨h1, h2⟩
      · rw [h1, h2]; simp
      · rw [h2]; exact Nat.le_refl _
    have h2 : s.data.toList.length = s.size := rfl
    omega
  clear hDl hDt hst hsz hD
  by_cases e0 : numD s = []
  · have hd0 : (D.toList == []) = true := by rw [HDT.out, e0]; rfl
    have HF : Hid (numOk m s = false) := hId (by unfold numOk; rw [e0]; rfl)
    clear e0
    go_enter Tryz.func101, Tryz.ntmps101
    go_wp2_with fail
    refine htp.mono ?_
    clear htp
    rintro e w1 ⟨rfl, rfl⟩
    go_wp2_with fail
    go_ret2
    exact numOk_false HF.out (Mod.refl _ _)
  · have hd0 : (D.toList == []) = false := by rw [HDT.out]; simpa using e0
    by_cases e1 : m < D.size
    · have hd1 : (m : Int) < (D.size : Int) := by omega
      have HF : Hid (numOk m s = false) := hId (by
        have : decide ((numD s).length ≤ m) = false := by simp; have := HSZ.out; omega
        unfold numOk; rw [this]; simp)
      clear e0
      go_enter Tryz.func101, Tryz.ntmps101
      go_wp2_with fail
      refine htp.mono ?_
      clear htp
      rintro e w1 ⟨rfl, rfl⟩
      go_wp2_with fail
      go_ret2
      exact numOk_false HF.out (Mod.refl _ _)
    · have hpos : 0 < D.size := by
        have h1 : (numD s).length ≠ 0 := fun h => e0 (List.eq_nil_of_length_eq_zero h)
        have := HSZ.out
        omega
      have hd1 : ¬ (m : Int) < (D.size : Int) := by omega
      have hhd : (numD s).head? = some D[0] := by
        rw [← HDL.out, List.head?_eq_getElem?]
        simp [ByteArray.getElem_eq_getElem_data, hpos]
      have HHD := hId hhd
      have HE0 := hId e0
      clear hhd e0
      by_cases e2 : D[0] = 48 ∧ s.data.toList ≠ [48]
      · have hd2 : ((D[0].toNat : Int) == 48) = true := by rw [e2.1]; rfl
        have hd3 : (s.toList == [48]) = false := by rw [HST.out]; simpa using e2.2
        have HF : Hid (numOk m s = false) := hId (by
          unfold numOk
          rw [HHD.out, e2.1]
          have : decide (s.data.toList = [48]) = false := by simpa using e2.2
          rw [this]
          simp)
        clear e2
        go_enter Tryz.func101, Tryz.ntmps101
        go_wp2_with fail
        refine htp.mono ?_
        clear htp
        rintro e w1 ⟨rfl, rfl⟩
        go_wp2_with fail
        go_ret2
        exact numOk_false HF.out (Mod.refl _ _)
      · have HLZ : Hid ((decide ((numD s).head? ≠ some 48) || decide (s.data.toList = [48])) = true) := hId (by
          by_cases h48 : D[0] = 48
          · have : s.data.toList = [48] := by
              by_cases h : s.data.toList = [48]
              · exact h
              · exact absurd ⟨h48, h⟩ e2
            simp [this]
          · rw [HHD.out]
            simp [h48])
        have hcond : ((D[0].toNat : Int) == 48) = false ∨ ((D[0].toNat : Int) == 48) = true ∧ (s.toList == [48]) = true := by
          by_cases h48 : D[0] = 48
          · right
            refine ⟨by rw [h48]; rfl, ?_⟩
            rw [HST.out]
            by_cases h : s.data.toList = [48]
            · simpa using h
            · exact absurd ⟨h48, h⟩ e2
          · left
            simp only [beq_eq_false_iff_ne, ne_eq]
            intro h
            exact h48 (UInt8.toNat_inj.1 (by have : (48 : UInt8).toNat = 48 := rfl; omega))
        clear e2
        go_enter Tryz.func101, Tryz.ntmps101
        go_wp2_with fail
        refine htp.mono ?_
        clear htp
        rintro e w1 ⟨rfl, rfl⟩
        go_upto_region 2 with (fail)
        have HC := hId hcond
        clear hcond
        go_cut [28] (fun s28 wx => s28 = .bool false ∧ wx = w1)
        case first =>
          have hd9 : decide ((m : Int) < (D.size : Int)) = false := by simpa using hd1
          rcases HC.out with hd2 | ⟨hd2, hd3⟩
          · go_wp2_with fail
            go_meet
            exact ⟨rfl, rfl⟩
          · go_wp2_with fail
            go_meet
            exact ⟨rfl, rfl⟩
        case rest =>
          obtain ⟨rfl, rfl⟩ := hcut
          go_wp2_with fail
          go_loopw [7] (fun i wr => ∃ k : Nat, k ≤ D.size ∧ i = .int .i64 k ∧ wr = wc ∧ Hid (((numD s).take k).all isDig = true)) (fun i _ => D.size - (intOf i).toNat)
          case atStart => exact ⟨0, Nat.zero_le _, rfl, rfl, hId rfl⟩
          case round =>
            obtain ⟨k, hk, rfl, rfl, HA⟩ := hrel
            by_cases hlt : k < D.size
            · have hkn : k < (numD s).length := by have := HSZ.out; omega
              have hDk : (numD s)[k] = D[k] := by
                have h1 : (numD s)[k]? = some D[k] := by
                  rw [← HDL.out]
                  simp [ByteArray.getElem_eq_getElem_data, hlt]
                rw [List.getElem?_eq_getElem hkn] at h1
                injection h1
              have HTK : Hid (((numD s).take (k + 1)).all isDig = (((numD s).take k).all isDig && isDig D[k])) := hId (by
                rw [List.take_succ_eq_append_getElem hkn, List.all_append, hDk]
                simp)
              clear hDk
              by_cases h1 : D[k].toNat < 48
              · have hd2 : decide ((D[k].toNat : Int) < 48) = true := by simp; omega
                have HF : Hid (numOk m s = false) := hId (by
                  have hz : isDig D[k] = false := by unfold isDig; simp; omega
                  have hall : (numD s).all isDig = false := by
                    rw [List.all_eq_false]
                    have h3 := HTK.out
                    rw [hz, Bool.and_false, List.all_eq_false] at h3
                    obtain ⟨x, hx, hx2⟩ := h3
                    exact ⟨x, List.mem_of_mem_take hx, hx2⟩
                  unfold numOk; rw [hall]; simp)
                go_wp2_with fail
                go_ret2
                exact numOk_false HF.out (Mod.refl _ _)
              · have hd2 : decide ((D[k].toNat : Int) < 48) = false := by simp; omega
                by_cases h2 : 57 < D[k].toNat
                · have hd3 : decide ((57 : Int) < (D[k].toNat : Int)) = true := by simp; omega
                  have HF : Hid (numOk m s = false) := hId (by
                    have hz : isDig D[k] = false := by unfold isDig; simp; omega
                    have hall : (numD s).all isDig = false := by
                      rw [List.all_eq_false]
                      have h3 := HTK.out
                      rw [hz, Bool.and_false, List.all_eq_false] at h3
                      obtain ⟨x, hx, hx2⟩ := h3
                      exact ⟨x, List.mem_of_mem_take hx, hx2⟩
                    unfold numOk; rw [hall]; simp)
                  go_wp2_with fail
                  go_ret2
                  exact numOk_false HF.out (Mod.refl _ _)
                · have hd3 : decide ((57 : Int) < (D[k].toNat : Int)) = false := by simp; omega
                  have hz : isDig D[k] = true := by unfold isDig; simp; omega
                  have HA2 : Hid (((numD s).take (k + 1)).all isDig = true) := hId (by rw [HTK.out, HA.out, hz]; rfl)
                  clear hz
                  go_wp2_with fail
                  exact ⟨⟨k + 1, by omega, by go_num, trivial, HA2⟩, by simp [intOf]; omega⟩
            · obtain rfl : k = D.size := by omega
              have hall : (numD s).all isDig = true := by
                have := HA.out
                rwa [List.take_of_length_le (by have := HSZ.out; omega)] at this
              obtain ⟨mv, hm, hat⟩ := num_atoi HE0.out hall
              have hv : Lib.atoi s.data.toList = some (numV s) := by unfold numV; rw [hat]; rfl
              have hs18 : s.size ≤ 18 := by
                have h2 : s.data.toList.length = s.size := rfl
                have h3 := HSZ.out
                rcases numD_cases s with ⟨r, q1, q2⟩ | ⟨q1, q2⟩
                · rw [q1] at h2; rw [q2] at h3; simp at h2; omega
                · rw [q2] at h3; omega
              have HF : Hid (numOk m s = true) := hId (by
                unfold numOk
                rw [hall, HLZ.out]
                have h1 : (numD s).isEmpty = false := by
                  cases e : numD s with
                  | nil => exact absurd e HE0.out
                  | cons _ _ => rfl
                have h2 : decide ((numD s).length ≤ m) = true := by simp; have := HSZ.out; omega
                rw [h1, h2]; rfl)
              have hato := Tryz.strconv_Atoi s (numV s) hs18 hv wr
              clear hall hm hat hv
              go_wp2_with fail
              refine hato.mono ?_
              clear hato
              rintro e w5 ⟨rfl, t, rfl⟩
              go_wp2_with fail
              go_quiet (fail)
              go_wp2_with fail
              go_ret2
              exact ⟨numV s, by rw [HF.out]; rfl, fun _ => rfl, (bytes_new _ _ _).drewN _⟩


def digChars : ByteArray := ⟨#[48, 49, 50, 51, 52, 53, 54, 55, 56, 57]⟩
theorem digChars_at (c : UInt8) : decide (0 ≤ Lib.indexByte digChars.data.toList c) = isDig c := by
  revert c
  apply of_byte
  decide +kernel
theorem only_digs (D : ByteArray) (k : Nat) (hk : k ≤ D.size) : onlyTo D digChars k = (D.data.toList.take k).all isDig := by
  induction k with
  | zero => rfl
  | succ k ih =>
    have hkn : k < D.data.toList.length := by show k < D.size; omega
    rw [onlyTo_succ, ih (by omega), digChars_at, List.take_succ_eq_append_getElem hkn, List.all_append]
    have h1 : D[k]?.getD 0 = D.data.toList[k] := by
      simp [ByteArray.getElem_eq_getElem_data, show k < D.size by omega]
    rw [h1]
    simp

set_option maxHeartbeats 2000000 in
theorem ref_number (m : Nat) (hm17 : m ≤ 17) (s : ByteArray) (w : World) (hs : s.size ≤ 1000000) (hT : Pow10 w) :
    Calls Tryz.prog 82 #[.string s, .int .i64 (m : Int)] w (RNum m s w) := by
  have htp := Tryz.strings_TrimPrefix s ⟨#[45]⟩ w
  generalize hD : (⟨(Lib.trimPrefix s.data.toList (⟨#[45]⟩ : ByteArray).data.toList).toArray⟩ : ByteArray) = D at *
  have hDl : D.data.toList = numD s := by subst hD; rfl
  have hDt : D.toList = numD s := by rw [ByteArray.toList_eq]; exact hDl
  have hst : s.toList = s.data.toList := ByteArray.toList_eq _
  have hsz : D.size = (numD s).length := by rw [← hDl]; rfl
  have hDs : D.size ≤ s.size := by
    have h1 : (numD s).length ≤ s.data.toList.length := by
      rcases numD_cases s with ⟨r, h1, h2⟩ | ⟨h1, h2⟩
      · rw [h1, h2]; simp
      · rw [h2]; exact Nat.le_refl _
    have h2 : s.data.toList.length = s.size := rfl
    omega
  have honly := ref_only D digChars w (by unfold maxLen; omega)
  rw [only_digs D D.size (Nat.le_refl _), List.take_of_length_le (show D.data.toList.length ≤ D.size from Nat.le_refl _), hDl] at honly
  have HDL := hId hDl
  have HDT := hId hDt
  have HST := hId hst
  have HSZ := hId hsz
  have HT := hId hT
  unfold digChars at honly
  clear hDl hDt hst hsz hD hT
  by_cases e0 : numD s = []
  · have hd0 : (D.toList == []) = true := by rw [HDT.out, e0]; rfl
    have HF : Hid (numOk m s = false) := hId (by unfold numOk; rw [e0]; rfl)
    clear e0 honly
    go_enter Tryz.func82, Tryz.ntmps82
    go_wp2_with fail
    refine htp.mono ?_
    clear htp
    rintro e w1 ⟨rfl, rfl⟩
    go_wp2_with fail
    go_ret2
    exact numOk_false HF.out (Mod.refl _ _)
  · have hd0 : (D.toList == []) = false := by rw [HDT.out]; simpa using e0
    by_cases e1 : m < D.size
    · have hd1 : decide ((m : Int) < (D.size : Int)) = true := by simp; omega
      have HF : Hid (numOk m s = false) := hId (by
        have : decide ((numD s).length ≤ m) = false := by simp; have := HSZ.out; omega
        unfold numOk; rw [this]; simp)
      clear e0 honly
      go_enter Tryz.func82, Tryz.ntmps82
      go_wp2_with fail
      refine htp.mono ?_
      clear htp
      rintro e w1 ⟨rfl, rfl⟩
      go_wp2_with fail
      go_ret2
      exact numOk_false HF.out (Mod.refl _ _)
    · have hd1 : decide ((m : Int) < (D.size : Int)) = false := by simp; omega
      cases hall : (numD s).all isDig with
      | false =>
        have HF : Hid (numOk m s = false) := hId (by unfold numOk; rw [hall]; simp)
        rw [hall] at honly
        clear e0 hall
        go_enter Tryz.func82, Tryz.ntmps82
        go_wp2_with fail
        refine htp.mono ?_
        clear htp
        rintro e w1 ⟨rfl, rfl⟩
        go_wp2_with fail
        refine honly.mono ?_
        clear honly
        rintro e w2 ⟨rfl, rfl⟩
        go_wp2_with fail
        go_ret2
        exact numOk_false HF.out (Mod.refl _ _)
      | true =>
        obtain ⟨mv, hm, hat⟩ := num_atoi e0 hall
        have hv : Lib.atoi s.data.toList = some (numV s) := by unfold numV; rw [hat]; rfl
        have hs18 : s.size ≤ 18 := by
          have h2 : s.data.toList.length = s.size := rfl
          have h3 := HSZ.out
          rcases numD_cases s with ⟨r, q1, q2⟩ | ⟨q1, q2⟩
          · rw [q1] at h2; rw [q2] at h3; simp at h2; omega
          · rw [q2] at h3; omega
        have hm18 : mv < 1000000000000000000 := Lib.decFrom_lt18 hm (by have := HSZ.out; omega)
        have hi64 : I64 (numV s) := by
          unfold numV
          rw [hat]
          simp only [Option.getD_some]
          split <;> constructor <;> omega
        have hok : ((itoaB (numV s)).toList == s.toList) = numOk m s := by
          have h1 := num_itoa e0 hall
          have h2 : (itoaB (numV s)).toList = Lib.itoa (numV s) := by rw [ByteArray.toList_eq]; simp [itoaB]
          have h4 : (numD s).isEmpty = false := by
            cases e : numD s with
            | nil => exact absurd e e0
            | cons _ _ => rfl
          have h5 : decide ((numD s).length ≤ m) = true := by simp; have := HSZ.out; omega
          unfold numOk
          rw [h2, HST.out, hall, h4, h5, ← h1]
          rw [Bool.eq_iff_iff]; simp
        have hito := fun W (hW : New w W) => itoa_any (numV s) hi64 W (HT.out.new hW)
        have hato := Tryz.strconv_Atoi s (numV s) hs18 hv w
        have HOK := hId hok
        rw [hall] at honly
        clear e0 hall hm hat hv hok hi64
        go_enter Tryz.func82, Tryz.ntmps82
        go_wp2_with fail
        refine htp.mono ?_
        clear htp
        rintro e w1 ⟨rfl, rfl⟩
        go_wp2_with fail
        refine honly.mono ?_
        clear honly
        rintro e w2 ⟨rfl, rfl⟩
        go_wp2_with fail
        refine hato.mono ?_
        clear hato
        rintro e w5 ⟨rfl, t, rfl⟩
        have hm5 := bytes_new w1 5 t
        generalize Lib.bytesWorld w1 5 t = w5 at *
        go_wp2_with fail
        refine (hito w5 hm5).mono ?_
        clear hito
        rintro e w6 ⟨rfl, hm6⟩
        go_wp2_with fail
        go_ret2
        exact ⟨numV s, by rw [HOK.out]; rfl, fun _ => rfl, hm5.trans hm6⟩

end Go.Proofs.YtjmnkdkdjnmejaaGreatDoor
