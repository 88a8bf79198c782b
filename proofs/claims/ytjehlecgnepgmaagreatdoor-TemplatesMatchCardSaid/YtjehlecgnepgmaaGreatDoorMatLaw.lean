/- Paths and their parameters, the plain law: units, the normal form of a path, its segments, matching, building. No program in sight. No conditions. -/
import Derived.Test.YtjehlecgnepgmaaGreatDoorTplLaw
namespace Go.Proofs.YtjehlecgnepgmaaGreatDoor
open Go.RowKit
set_option linter.unusedVariables false
set_option linter.unusedSimpArgs false

/-- a text's units: each a byte, and whether it stands for itself -/
def unitsL : List UInt8 → Option (List (UInt8 × Bool))
  | [] => some []
  | [a] => if a = 37 then none else some [(a, true)]
  | [a, b] => if a = 37 then none else (unitsL [b]).map ((a, true) :: ·)
  | a :: b :: c :: r => if a = 37 then (if isHexN b.toNat && isHexN c.toNat then (unitsL r).map ((unitV b c, false) :: ·) else none) else (unitsL (b :: c :: r)).map ((a, true) :: ·)
theorem unitsL_plain {a : UInt8} (h : a ≠ 37) (r : List UInt8) : unitsL (a :: r) = (unitsL r).map ((a, true) :: ·) := by
  match r with
  | [] => simp [unitsL, h]
  | [b] => simp only [unitsL]; rw [if_neg h]
  | b :: c :: r => simp only [unitsL]; rw [if_neg h]
theorem unitsL_unit {b c : UInt8} (h : (isHexN b.toNat && isHexN c.toNat) = true) (r : List UInt8) : unitsL (37 :: b :: c :: r) = (unitsL r).map ((unitV b c, false) :: ·) := by
  rw [unitsL, if_pos rfl, if_pos h]
theorem unitsL_at_plain {s : List UInt8} {i : Nat} (h : i < s.length) (h1 : s[i] ≠ 37) : unitsL (s.drop i) = (unitsL (s.drop (i + 1))).map ((s[i], true) :: ·) := by
  rw [List.drop_eq_getElem_cons h, unitsL_plain h1]
theorem unitsL_at_unit {s : List UInt8} {i : Nat} (h : i < s.length) (h1 : s[i] = 37) (h2 : unitAt s i = true) : unitsL (s.drop i) = (unitsL (s.drop (i + 3))).map ((unitV (s.getD (i + 1) 0) (s.getD (i + 2) 0), false) :: ·) := by
  simp only [unitAt, Bool.and_eq_true, decide_eq_true_eq] at h2
  obtain ⟨⟨h3, h4⟩, h5⟩ := h2
  have e1 : s.getD (i + 1) 0 = s[i + 1]'(by omega) := by simp [List.getD_eq_getElem?_getD, List.getElem?_eq_getElem (show i + 1 < s.length by omega)]
  have e2 : s.getD (i + 2) 0 = s[i + 2]'(by omega) := by simp [List.getD_eq_getElem?_getD, List.getElem?_eq_getElem (show i + 2 < s.length by omega)]
  rw [e1] at h4 ⊢
  rw [e2] at h5 ⊢
  rw [List.drop_eq_getElem_cons h, List.drop_eq_getElem_cons (show i + 1 < s.length by omega), List.drop_eq_getElem_cons (show i + 1 + 1 < s.length by omega), h1, unitsL_unit (by rw [h4]; exact h5)]
theorem unitsL_at_bad {s : List UInt8} {i : Nat} (h : i < s.length) (h1 : s[i] = 37) (h2 : unitAt s i = false) : unitsL (s.drop i) = none := by
  rw [List.drop_eq_getElem_cons h, h1]
  match hr : s.drop (i + 1) with
  | [] => simp [unitsL]
  | [b] => simp [unitsL]
  | b :: c :: r =>
    have hl : (s.drop (i + 1)).length = r.length + 2 := by rw [hr]; rfl
    have hl2 : i + 2 < s.length := by simp only [List.length_drop] at hl; omega
    have e1 : s.getD (i + 1) 0 = b := by
      have : (s.drop (i + 1))[0]? = some b := by rw [hr]; rfl
      simp only [List.getElem?_drop, Nat.add_zero] at this
      simp [List.getD_eq_getElem?_getD, this]
    have e2 : s.getD (i + 2) 0 = c := by
      have : (s.drop (i + 1))[1]? = some c := by rw [hr]; rfl
      simp only [List.getElem?_drop] at this
      simp [List.getD_eq_getElem?_getD, show i + 2 = i + 1 + 1 from rfl, this]
    unfold unitAt at h2
    rw [e1, e2, decide_eq_true hl2] at h2
    rw [unitsL, if_pos rfl, if_neg (by rw [Bool.true_and] at h2; rw [h2]; decide)]
/-- what the units stand for is what decoding gives -/
theorem decL_units : ∀ (n : Nat) (s : List UInt8), s.length ≤ n → decL s = (unitsL s).map (·.map Prod.fst)
  | _, [], _ => by simp [decL, unitsL]
  | 0, a :: r, hn => by simp at hn
  | n + 1, a :: r, hn => by
    have hn' : r.length ≤ n := by simpa using hn
    by_cases e : a = 37
    · subst e
      match r, hn' with
      | [], _ => simp [decL, unitsL]
      | [b], _ => simp [decL, unitsL]
      | b :: c :: r, hn' =>
        rw [decL, if_pos rfl, unitsL, if_pos rfl]
        split
        · rw [decL_units n r (by simp only [List.length_cons] at hn'; omega)]
          cases unitsL r <;> simp
        · rfl
    · rw [decL_plain e, unitsL_plain e, decL_units n r hn']
      cases unitsL r <;> simp
theorem unitsL_length : ∀ (n : Nat) (s : List UInt8) (u : List (UInt8 × Bool)), s.length ≤ n → unitsL s = some u → u.length ≤ s.length
  | _, [], u, _, h => by simp [unitsL] at h; subst h; simp
  | 0, a :: r, u, hn, h => by simp at hn
  | n + 1, a :: r, u, hn, h => by
    have hn' : r.length ≤ n := by simpa using hn
    by_cases e : a = 37
    · subst e
      match r, h, hn' with
      | [], h, _ => simp [unitsL] at h
      | [b], h, _ => simp [unitsL] at h
      | b :: c :: r, h, hn' =>
        rw [unitsL, if_pos rfl] at h
        split at h
        · cases hd : unitsL r with
          | none => rw [hd] at h; simp at h
          | some q =>
            rw [hd] at h
            simp only [Option.map_some, Option.some.injEq] at h
            subst h
            have := unitsL_length n r q (by simp only [List.length_cons] at hn'; omega) hd
            simp only [List.length_cons]; omega
        · cases h
    · rw [unitsL_plain e] at h
      cases hd : unitsL r with
      | none => rw [hd] at h; simp at h
      | some q =>
        rw [hd] at h
        simp only [Option.map_some, Option.some.injEq] at h
        subst h
        have := unitsL_length n r q hn' hd
        simp only [List.length_cons]; omega

/-- how a unit is written in the normal form -/
def pctC (c : UInt8) : List UInt8 := [37, upHex (c.toNat / 16), upHex (c.toNat % 16)]
def normC (x : UInt8 × Bool) : List UInt8 := if x.2 then [x.1] else if freeN x.1.toNat then [x.1] else pctC x.1
def normL (s : List UInt8) : Option (List UInt8) := (unitsL s).map (·.flatMap normC)
theorem normC_length (x : UInt8 × Bool) : (normC x).length ≤ 3 := by unfold normC pctC; split <;> (try split) <;> simp
theorem flat_norm_length (u : List (UInt8 × Bool)) : (u.flatMap normC).length ≤ 3 * u.length := by
  induction u with
  | nil => simp
  | cons c u ih => have := normC_length c; simp only [List.flatMap_cons, List.length_append, List.length_cons]; omega
theorem normL_length {s o : List UInt8} (h : normL s = some o) : o.length ≤ 3 * s.length := by
  unfold normL at h
  cases hu : unitsL s with
  | none => rw [hu] at h; cases h
  | some u =>
    rw [hu] at h
    simp only [Option.map_some, Option.some.injEq] at h
    subst h
    have h1 := flat_norm_length u
    have h2 := unitsL_length _ s u (Nat.le_refl _) hu
    omega
/-- a path's normal form begins as it does -/
theorem normL_head {s o : List UInt8} {r : List UInt8} (hs : s = 47 :: r) (h : normL s = some o) : ∃ o', o = 47 :: o' := by
  subst hs
  unfold normL at h
  rw [unitsL_plain (by decide)] at h
  cases hu : unitsL r with
  | none => rw [hu] at h; cases h
  | some u =>
    rw [hu] at h
    simp only [Option.map_some, Option.some.injEq, List.flatMap_cons] at h
    exact ⟨_, h.symm⟩

abbrev dot1 : ByteArray := ⟨#[46]⟩
abbrev dot2 : ByteArray := ⟨#[46, 46]⟩
abbrev emptyB : ByteArray := ⟨#[]⟩
/-- segments with their dots carried out: st are those that stand -/
def dotsF : List ByteArray → List ByteArray → List ByteArray
  | [], st => st
  | x :: xs, st =>
    if x = dot1 then dotsF xs (if xs.isEmpty then st ++ [emptyB] else st)
    else if x = dot2 then dotsF xs (if xs.isEmpty then st.dropLast ++ [emptyB] else st.dropLast)
    else dotsF xs (st ++ [x])
/-- the same from the end: x comes first if 'fst'; skip: so many are to be passed over; out: what stands, from the end -/
def dotsB : List ByteArray → Bool → Nat → List ByteArray → List ByteArray × Nat
  | [], _, skip, out => (out, skip)
  | x :: xs, fst, skip, out =>
    if x = dot1 ∨ x = dot2 then dotsB xs false (if x = dot2 then skip + 1 else skip) (if fst then out ++ [emptyB] else out)
    else if 0 < skip then dotsB xs false (skip - 1) out
    else dotsB xs false 0 (out ++ [x])
/-- the walk over all but the last -/
def dotsM : List ByteArray → List ByteArray → List ByteArray
  | [], st => st
  | x :: xs, st => if x = dot1 then dotsM xs st else if x = dot2 then dotsM xs st.dropLast else dotsM xs (st ++ [x])
theorem dotsM_snoc (xs : List ByteArray) (x : ByteArray) : ∀ st, dotsM (xs ++ [x]) st = if x = dot1 then dotsM xs st else if x = dot2 then (dotsM xs st).dropLast else dotsM xs st ++ [x] := by
  induction xs with
  | nil => intro st; simp [dotsM]
  | cons y xs ih =>
    intro st
    rw [List.cons_append, dotsM, dotsM]
    split
    · exact ih st
    · split
      · exact ih _
      · exact ih _
theorem dotsF_snoc (xs : List ByteArray) (x : ByteArray) : ∀ st, dotsF (xs ++ [x]) st = if x = dot1 then dotsM xs st ++ [emptyB] else if x = dot2 then (dotsM xs st).dropLast ++ [emptyB] else dotsM xs st ++ [x] := by
  induction xs with
  | nil => intro st; simp [dotsF, dotsM]
  | cons y xs ih =>
    intro st
    have he : (xs ++ [x]).isEmpty = false := by simp
    rw [List.cons_append, dotsF, dotsM, he]
    simp only [Bool.false_eq_true, if_false]
    split
    · exact ih st
    · split
      · exact ih _
      · exact ih _
def dropEnd (k : Nat) (l : List ByteArray) : List ByteArray := l.take (l.length - k)
theorem dropEnd_zero (l : List ByteArray) : dropEnd 0 l = l := by simp [dropEnd]
theorem dropEnd_dropLast (k : Nat) (l : List ByteArray) : dropEnd k l.dropLast = dropEnd (k + 1) l := by
  unfold dropEnd
  rw [List.dropLast_eq_take, List.take_take, List.length_take]
  congr 1
  omega
theorem dropEnd_snoc (k : Nat) (l : List ByteArray) (x : ByteArray) : dropEnd (k + 1) (l ++ [x]) = dropEnd k l := by
  unfold dropEnd
  rw [List.length_append, List.length_singleton, List.take_append_of_le_length (by omega)]
  congr 1
  omega
/-- what stands, from the end: xs reversed, skip to be passed over -/
theorem dotsB_out (xs : List ByteArray) : ∀ (skip : Nat) (out : List ByteArray), (dotsB xs.reverse false skip out).1.reverse = dropEnd skip (dotsM xs []) ++ out.reverse := by
  induction hn : xs.length generalizing xs with
  | zero =>
    intro skip out
    have : xs = [] := List.eq_nil_of_length_eq_zero hn
    subst this
    simp [dotsB, dotsM, dropEnd]
  | succ n ih =>
    intro skip out
    obtain ⟨ys, x, rfl⟩ : ∃ ys x, xs = ys ++ [x] := ⟨xs.dropLast, xs.getLast (by intro h; rw [h] at hn; cases hn), (List.dropLast_concat_getLast _).symm⟩
    have hy : ys.length = n := by simpa using hn
    rw [List.reverse_append, List.reverse_singleton, List.singleton_append, dotsB, dotsM_snoc]
    by_cases h1 : x = dot1
    · have h12 : ¬ x = dot2 := by rw [h1]; decide
      rw [if_pos (.inl h1), if_neg h12, if_pos h1]
      exact ih ys hy skip out
    · by_cases h2 : x = dot2
      · rw [if_pos (.inr h2), if_pos h2, if_neg h1, if_pos h2]
        rw [dropEnd_dropLast]
        exact ih ys hy (skip + 1) out
      · rw [if_neg (fun h => h.elim h1 h2), if_neg h1, if_neg h2]
        cases skip with
        | zero =>
          rw [if_neg (by omega), ih ys hy 0 (out ++ [x])]
          simp [dropEnd_zero]
        | succ k =>
          rw [if_pos (by omega), dropEnd_snoc]
          exact ih ys hy k out
theorem dots_same {xs : List ByteArray} (h : xs ≠ []) : (dotsB xs.reverse true 0 []).1.reverse = dotsF xs [] := by
  obtain ⟨ys, x, rfl⟩ : ∃ ys x, xs = ys ++ [x] := ⟨xs.dropLast, xs.getLast h, (List.dropLast_concat_getLast _).symm⟩
  rw [List.reverse_append, List.reverse_singleton, List.singleton_append, dotsB, dotsF_snoc]
  by_cases h1 : x = dot1
  · have h12 : ¬ x = dot2 := by rw [h1]; decide
    rw [if_pos (.inl h1), if_neg h12, if_pos rfl, if_pos h1, dotsB_out, dropEnd_zero]
    rfl
  · by_cases h2 : x = dot2
    · rw [if_pos (.inr h2), if_pos h2, if_pos rfl, if_neg h1, if_pos h2, dotsB_out, ← dropEnd_dropLast, dropEnd_zero]
      rfl
    · rw [if_neg (fun h => h.elim h1 h2), if_neg (by omega), if_neg h1, if_neg h2, dotsB_out, dropEnd_zero]
      rfl

abbrev PairD := ByteArray × ByteArray
def lookP (l : List PairD) (n : ByteArray) : Option ByteArray := (l.find? fun p => decide (p.1 = n)).map (·.2)
/-- does a name stand twice among parameters? -/
def twiceP (l : List PairD) : Bool := (List.range l.length).any fun i => (l[i]?).any fun p => (lookP (l.take i) p.1).isSome
theorem lookP_at {l : List PairD} {k : Nat} (h : k < l.length) (n : ByteArray) : lookP (l.drop k) n = if l[k].1 = n then some l[k].2 else lookP (l.drop (k + 1)) n := by
  rw [List.drop_eq_getElem_cons h]
  unfold lookP
  rw [List.find?_cons]
  by_cases e : l[k].1 = n <;> simp [e]

end Go.Proofs.YtjehlecgnepgmaaGreatDoor
