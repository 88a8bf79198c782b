/- The names of hosts and their ports: the plain law. No program in sight. No conditions. -/
import Derived.Test.YtnbcfpjalgfikaaGreatDoorCaseLaw
import Derived.Test.YtnbcfpjalgfikaaGreatDoorNumM
import Derived.Lib.CutLaws
import Derived.Lib.IndexBytes
namespace Go.Proofs.YtnbcfpjalgfikaaGreatDoor
open Go.RowKit
set_option linter.unusedVariables false
set_option linter.unusedSimpArgs false

/-- what stands ahead of the first c, what behind it, and whether there is one -/
def cutL (c : UInt8) (l : List UInt8) : List UInt8 × List UInt8 × Bool := (l.takeWhile (· != c), (l.dropWhile (· != c)).drop 1, l.contains c)
theorem index_cons (c b : UInt8) (l : List UInt8) : Lib.index (b :: l) [c] = if b = c then 0 else if Lib.index l [c] = -1 then -1 else Lib.index l [c] + 1 := by
  rw [Lib.index_one, Lib.index_one, Lib.indexByte]
  by_cases h : b = c
  · simp [h]
  · rw [if_neg h, if_neg (by simpa using h)]
    by_cases h2 : Lib.indexByte l c = -1
    · simp [h2]
    · simp [h2]
theorem cut_cons (c b : UInt8) (l : List UInt8) (h : b ≠ c) : Lib.cut (b :: l) [c] = (b :: (Lib.cut l [c]).1, (Lib.cut l [c]).2.1, (Lib.cut l [c]).2.2) := by
  have hg := Lib.index_ge l [c]
  unfold Lib.cut
  rw [index_cons, if_neg h]
  by_cases h2 : Lib.index l [c] = -1
  · rw [if_pos h2, h2]; rfl
  · rw [if_neg h2]
    obtain ⟨k, hk⟩ : ∃ k : Nat, Lib.index l [c] = k := ⟨(Lib.index l [c]).toNat, by omega⟩
    rw [hk, if_pos (by omega), if_pos (by omega), show ((k : Int) + 1).toNat = k + 1 by omega, show ((k : Int)).toNat = k by omega]
    simp [Nat.add_right_comm]
theorem cut_eq (c : UInt8) : ∀ l : List UInt8, Lib.cut l [c] = cutL c l
  | [] => by unfold Lib.cut cutL; rw [Lib.index_one]; rfl
  | b :: l => by
    by_cases h : b = c
    · subst h
      unfold Lib.cut cutL
      rw [index_cons, if_pos rfl]
      simp [List.takeWhile_cons, List.dropWhile_cons]
    · rw [cut_cons c b l h, cut_eq c l]
      have hb : (b != c) = true := by simpa using h
      have hc : (c == b) = false := by simpa using fun e => h e.symm
      unfold cutL
      rw [List.takeWhile_cons, hb, List.dropWhile_cons, hb, List.contains_cons, hc]
      rfl
theorem cutL_join (c : UInt8) : ∀ l : List UInt8, l = (cutL c l).1 ++ (if (cutL c l).2.2 then c :: (cutL c l).2.1 else [])
  | [] => rfl
  | b :: l => by
    have ih := cutL_join c l
    unfold cutL at ih ⊢
    by_cases h : b = c
    · subst h
      simp [List.takeWhile_cons, List.dropWhile_cons]
    · have hb : (b != c) = true := by simpa using h
      have hc : (c == b) = false := by simpa using fun e => h e.symm
      rw [List.takeWhile_cons, hb, List.dropWhile_cons, hb, List.contains_cons, hc]
      simp only [if_true, Bool.false_or, List.cons_append]
      rw [← ih]
theorem cutL_none {c : UInt8} {l : List UInt8} (h : (cutL c l).2.2 = false) : (cutL c l).1 = l ∧ (cutL c l).2.1 = [] := by
  have h1 := cutL_join c l
  rw [h] at h1
  simp only [Bool.false_eq_true, if_false, List.append_nil] at h1
  refine ⟨h1.symm, ?_⟩
  unfold cutL at h ⊢
  simp only at h ⊢
  have : l.dropWhile (· != c) = [] := by
    rw [dropW_nil]
    intro b hb
    simp only [bne_iff_ne, ne_eq]
    rintro rfl
    rw [List.contains_iff_mem.2 hb] at h
    cases h
  rw [this]
  rfl
theorem lower_colon (b : UInt8) : (Lib.lowerB b != 58) = (b != 58) := by
  revert b
  apply byteOf
  decide +kernel
theorem cutL_lower (l : List UInt8) : cutL 58 (Lib.toLowerA l) = (Lib.toLowerA (cutL 58 l).1, Lib.toLowerA (cutL 58 l).2.1, (cutL 58 l).2.2) := by
  induction l with
  | nil => rfl
  | cons b l ih =>
    have hq := lower_colon b
    unfold cutL Lib.toLowerA at ih ⊢
    simp only [Prod.mk.injEq] at ih
    obtain ⟨i1, i2, i3⟩ := ih
    cases hb : (b != 58) with
    | false =>
      rw [hb] at hq
      have e1 : b = 58 := by simpa using hb
      subst e1
      rfl
    | true =>
      rw [hb] at hq
      have hc1 : ((58 : UInt8) == Lib.lowerB b) = false := by
        have : Lib.lowerB b ≠ 58 := by simpa using hq
        simpa using fun e => this e.symm
      have hc2 : ((58 : UInt8) == b) = false := by
        have : b ≠ 58 := by simpa using hb
        simpa using fun e => this e.symm
      simp only [List.map_cons, List.takeWhile_cons, List.dropWhile_cons, List.contains_cons, hq, hb, if_true, hc1, hc2, Bool.false_or, Prod.mk.injEq]
      exact ⟨by rw [i1], i2, i3⟩
theorem lower_dig : ∀ c : UInt8, isDig c = true → Lib.lowerB c = c := by
  apply byteOf
  decide +kernel
theorem lower_digs {l : List UInt8} (h : l.all isDig = true) : Lib.toLowerA l = l := by
  unfold Lib.toLowerA
  rw [show l.map Lib.lowerB = l.map id from List.map_congr_left (fun c hc => lower_dig c (List.all_eq_true.1 h c hc)), List.map_id]
theorem lower_len (l : List UInt8) : (Lib.toLowerA l).length = l.length := by unfold Lib.toLowerA; rw [List.length_map]

abbrev dotB : ByteArray := ⟨#[46]⟩
/-- a port's number -/
def portOk (p : ByteArray) : Bool := numOk 9 p && (decide (1 ≤ numV p) && decide (numV p ≤ 65535))
/-- the ports that need not be told -/
def plainP (p : List UInt8) : Bool := decide (p = [56, 48]) || decide (p = [52, 52, 51])
def hostForm (s : ByteArray) : Bool :=
  (pieces ⟨(cutL 58 s.data.toList).1.toArray⟩ dotB).all (fun x => labOk x.data.toList) && decide (s.size ≤ 255) && (!(cutL 58 s.data.toList).2.2 || portOk ⟨(cutL 58 s.data.toList).2.1.toArray⟩)
/-- a host in its normal form -/
def hostN (l : List UInt8) : List UInt8 := if (cutL 58 l).2.2 && plainP (cutL 58 l).2.1 then Lib.toLowerA (cutL 58 l).1 else Lib.toLowerA l
theorem numOk_parts {m : Nat} {p : ByteArray} (h : numOk m p = true) : numD p ≠ [] ∧ (numD p).length ≤ m ∧ (numD p).all isDig = true ∧ ((numD p).head? ≠ some 48 ∨ p.data.toList = [48]) := by
  unfold numOk at h
  simp only [Bool.and_eq_true, Bool.not_eq_true', decide_eq_true_eq, Bool.or_eq_true] at h
  obtain ⟨⟨⟨h1, h2⟩, h3⟩, h4⟩ := h
  exact ⟨fun e => by rw [e] at h1; simp at h1, h2, h3, h4⟩
theorem num_text {m : Nat} {p : ByteArray} (h : numOk m p = true) : Lib.itoa (numV p) = p.data.toList := by
  obtain ⟨h1, h2, h3, h4⟩ := numOk_parts h
  have q := num_itoa (s := p) h1 h3
  have : (decide ((numD p).head? ≠ some 48) || decide (p.data.toList = [48])) = true := by
    rcases h4 with h4 | h4 <;> simp [h4]
  rw [this] at q
  simpa using q
theorem port_digs {p : ByteArray} (h : portOk p = true) : p.data.toList ≠ [] ∧ p.data.toList.all isDig = true := by
  unfold portOk at h
  simp only [Bool.and_eq_true, decide_eq_true_eq] at h
  obtain ⟨h1, h2, h3⟩ := h
  obtain ⟨q1, q2, q3, q4⟩ := numOk_parts h1
  rcases numD_cases p with ⟨r, e1, e2⟩ | ⟨e1, e2⟩
  · obtain ⟨m, h4, h5⟩ := num_atoi q1 q3
    have hv : numV p = if p.data.toList.head? = some 45 then -(m : Int) else m := by unfold numV; rw [h5]; rfl
    rw [e1, List.head?_cons, if_pos rfl] at hv
    omega
  · rw [e2] at q1 q3
    exact ⟨q1, q3⟩
theorem num_port {p : ByteArray} (h : portOk p = true) : (decide (numV p = 80) || decide (numV p = 443)) = plainP p.data.toList := by
  have h1 : numOk 9 p = true := by unfold portOk at h; simp only [Bool.and_eq_true] at h; exact h.1
  have ht := num_text h1
  unfold plainP
  rw [Bool.eq_iff_iff]
  simp only [Bool.or_eq_true, decide_eq_true_eq]
  constructor
  · rintro (e | e) <;> rw [e] at ht <;> rw [← ht]
    · exact .inl (by decide +kernel)
    · exact .inr (by decide +kernel)
  · rintro (e | e)
    · exact .inl (by unfold numV; rw [e]; decide +kernel)
    · exact .inr (by unfold numV; rw [e]; decide +kernel)
theorem hostN_prog {l : List UInt8} (h : (!(cutL 58 l).2.2 || portOk ⟨(cutL 58 l).2.1.toArray⟩) = true) :
    (if (cutL 58 (Lib.toLowerA l)).2.1 = [] ∨ plainP (cutL 58 (Lib.toLowerA l)).2.1 = true then (cutL 58 (Lib.toLowerA l)).1 else (cutL 58 (Lib.toLowerA l)).1 ++ 58 :: (cutL 58 (Lib.toLowerA l)).2.1) = hostN l := by
  rw [cutL_lower]
  unfold hostN
  cases hh : (cutL 58 l).2.2 with
  | false =>
    obtain ⟨h1, h2⟩ := cutL_none hh
    rw [h1, h2]
    simp [Lib.toLowerA]
  | true =>
    rw [hh] at h
    simp only [Bool.not_true, Bool.false_or] at h
    obtain ⟨d1, d2⟩ := port_digs h
    simp only at d1 d2
    have hj := cutL_join 58 l
    rw [hh, if_pos rfl] at hj
    simp only [lower_digs d2, Bool.true_and]
    cases hp : plainP (cutL 58 l).2.1 with
    | true => simp
    | false =>
      rw [if_neg (by simp [d1]), if_neg (by simp)]
      have e : Lib.toLowerA l = Lib.toLowerA (cutL 58 l).1 ++ Lib.toLowerA (58 :: (cutL 58 l).2.1) := by
        conv => lhs; rw [hj]
        unfold Lib.toLowerA
        rw [List.map_append]
      have e2 : Lib.toLowerA (58 :: (cutL 58 l).2.1) = 58 :: (cutL 58 l).2.1 := by
        have := lower_digs d2
        unfold Lib.toLowerA at this ⊢
        rw [List.map_cons, this]
        rfl
      rw [e, e2]
theorem hostN_ref {l : List UInt8} (h : (!(cutL 58 l).2.2 || portOk ⟨(cutL 58 l).2.1.toArray⟩) = true) :
    Lib.toLowerA (cutL 58 l).1 ++ (if (cutL 58 l).2.2 = true ∧ plainP (cutL 58 l).2.1 = false then 58 :: (cutL 58 l).2.1 else []) = hostN l := by
  unfold hostN
  cases hh : (cutL 58 l).2.2 with
  | false =>
    obtain ⟨h1, h2⟩ := cutL_none hh
    rw [h1, h2]
    simp
  | true =>
    rw [hh] at h
    simp only [Bool.not_true, Bool.false_or] at h
    obtain ⟨d1, d2⟩ := port_digs h
    simp only at d1 d2
    have hj := cutL_join 58 l
    rw [hh, if_pos rfl] at hj
    simp only [Bool.true_and]
    cases hp : plainP (cutL 58 l).2.1 with
    | true => simp
    | false =>
      rw [if_pos (by simp), if_neg (by simp)]
      have e : Lib.toLowerA l = Lib.toLowerA (cutL 58 l).1 ++ Lib.toLowerA (58 :: (cutL 58 l).2.1) := by
        conv => lhs; rw [hj]
        unfold Lib.toLowerA
        rw [List.map_append]
      have e2 : Lib.toLowerA (58 :: (cutL 58 l).2.1) = 58 :: (cutL 58 l).2.1 := by
        have := lower_digs d2
        unfold Lib.toLowerA at this ⊢
        rw [List.map_cons, this]
        rfl
      rw [e, e2]
theorem decDigits_len : ∀ (k n : Nat), n < 10 ^ (k + 1) → (Lib.decDigits n).length ≤ k + 1
  | 0, n, h => by rw [Lib.decDigits, dif_pos (by omega)]; simp
  | k + 1, n, h => by
    rw [Lib.decDigits]
    split
    · simp
    · have := decDigits_len k (n / 10) (by rw [Nat.pow_succ] at h; omega)
      simp only [List.length_append, List.length_cons, List.length_nil]
      omega
theorem numOk_more {m m' : Nat} (h : m ≤ m') {p : ByteArray} (hp : numOk m p = true) : numOk m' p = true := by
  unfold numOk at hp ⊢
  simp only [Bool.and_eq_true, decide_eq_true_eq] at hp ⊢
  exact ⟨⟨⟨hp.1.1.1, by omega⟩, hp.1.2⟩, hp.2⟩
theorem portOk_five (p : ByteArray) : portOk p = (numOk 5 p && (decide (1 ≤ numV p) && decide (numV p ≤ 65535))) := by
  rw [Bool.eq_iff_iff]
  constructor
  · intro h
    have hd := port_digs h
    unfold portOk at h
    simp only [Bool.and_eq_true, decide_eq_true_eq] at h
    obtain ⟨h1, h2, h3⟩ := h
    have ht := num_text h1
    have hl : p.data.toList.length ≤ 5 := by
      rw [← ht]
      obtain ⟨k, hk⟩ : ∃ k : Nat, numV p = k := ⟨(numV p).toNat, by omega⟩
      rw [hk]
      have := decDigits_len 4 k (by omega)
      exact this
    simp only [Bool.and_eq_true, decide_eq_true_eq]
    refine ⟨?_, h2, h3⟩
    unfold numOk at h1 ⊢
    simp only [Bool.and_eq_true, decide_eq_true_eq] at h1 ⊢
    refine ⟨⟨⟨h1.1.1.1, ?_⟩, h1.1.2⟩, h1.2⟩
    have : (numD p).length ≤ p.data.toList.length := by
      rcases numD_cases p with ⟨r, e1, e2⟩ | ⟨e1, e2⟩
      · rw [e1, e2]; simp
      · rw [e2]; exact Nat.le_refl _
    omega
  · intro h
    unfold portOk
    simp only [Bool.and_eq_true, decide_eq_true_eq] at h ⊢
    exact ⟨numOk_more (by omega) h.1, h.2⟩
end Go.Proofs.YtnbcfpjalgfikaaGreatDoor
