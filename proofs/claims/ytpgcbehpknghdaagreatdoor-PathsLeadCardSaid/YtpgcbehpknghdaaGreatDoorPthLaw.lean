/- Paths as text, the plain law: what writing and reading them gives. No program in sight. No conditions. -/
import Derived.Test.YtpgcbehpknghdaaGreatDoorWrdsLawGrp
import Derived.Test.YtpgcbehpknghdaaGreatDoorPowGrp
import Derived.Test.YtpgcbehpknghdaaGreatDoorChgLawGrp
namespace Go.Proofs.YtpgcbehpknghdaaGreatDoor
open Go.RowKit
set_option linter.unusedVariables false
set_option linter.unusedSimpArgs false

/-- the text of a step, and of a path -/
def stepTx (s : St) : List UInt8 :=
  if s.named = false then 91 :: (Lib.itoa s.at_ ++ [93]) else
  if plainRow s.name.data.toList = true then 46 :: s.name.data.toList else 91 :: (quoteL s.name.data.toList ++ [93])
def pathTx (p : List St) : List UInt8 := p.flatMap stepTx

def wrdHead (l : List UInt8) : List UInt8 := l.takeWhile fun c => isWrdN c.toNat
def numB (l : List UInt8) : ByteArray := ⟨l.toArray⟩
/-- the step that begins a text, and how many bytes it has -/
def stepRd : List UInt8 → Option (St × Nat)
  | [] => none
  | c :: r =>
    if c = 46 then (if plainRow (wrdHead r) = true then some (⟨true, numB (wrdHead r), 0⟩, (wrdHead r).length + 1) else none)
    else if c ≠ 91 then none
    else if r.head? = some 34 then
      match wordsOf (r.drop 1) with
      | none => none
      | some (w, n) => if plainRow w = false ∧ Lib.hasPrefix r (quoteL w ++ [93]) = true then some (⟨true, numB w, 0⟩, n + 3) else none
    else if Lib.indexByte r 93 < 1 then none
    else if numOk 9 (numB (r.take (Lib.indexByte r 93).toNat)) = false ∨ numV (numB (r.take (Lib.indexByte r 93).toNat)) < 0 then none
    else some (⟨false, ⟨#[]⟩, numV (numB (r.take (Lib.indexByte r 93).toNat))⟩, (Lib.indexByte r 93).toNat + 2)
/-- a path that a text holds: its steps, the place of what is wrong, the error -/
def pathRd : Nat → List St → Nat → List UInt8 → List St × Int × Int
  | 0, out, _, _ => ([], 0, 0)
  | _ + 1, out, at_, [] => if pathF out ≠ 0 then ([], 0, pathF out) else (out, 0, 0)
  | f + 1, out, at_, c :: r =>
    match stepRd (c :: r) with
    | none => ([], at_, 9)
    | some (s, n) => pathRd f (out ++ [s]) (at_ + n) ((c :: r).drop n)
def pathOf (s : ByteArray) : List St × Int × Int := if 200000 < s.size then ([], 0, 2) else pathRd (s.size + 1) [] 0 s.data.toList
theorem stepRd_pos {l : List UInt8} {s : St} {n : Nat} (h : stepRd l = some (s, n)) : 1 ≤ n := by
  unfold stepRd at h
  split at h
  · cases h
  · split at h
    · split at h
      · injection h with h; injection h with h1 h2; omega
      · cases h
    · split at h
      · cases h
      · split at h
        · split at h
          · cases h
          · split at h
            · injection h with h; injection h with h1 h2; omega
            · cases h
        · split at h
          · cases h
          · split at h
            · cases h
            · injection h with h; injection h with h1 h2; omega

theorem pre_iff (l p : List UInt8) : Lib.hasPrefix l p = true ↔ p = l.take p.length := by
  unfold Lib.hasPrefix
  rw [List.isPrefixOf_iff_prefix, List.prefix_iff_eq_take]
/-- what the program asks of words behind a bracket, in place of the reference's one prefix -/
theorem quote_ends {r w : List UInt8} {n : Nat} (h0 : r.head? = some 34) (h : wordsOf (r.drop 1) = some (w, n)) :
    n + 1 ≤ r.length ∧ (Lib.hasPrefix r (quoteL w ++ [93]) = true ↔ quoteL w = r.take (n + 1) ∧ r[n + 1]? = some 93) := by
  cases r with
  | nil => cases h0
  | cons c t =>
    injection h0 with h0
    subst h0
    rw [List.drop_succ_cons, List.drop_zero] at h
    have hle := (wordsL_le _ _ _ _ _ _ h).2
    refine ⟨by rw [List.length_cons]; omega, ?_⟩
    constructor
    · intro hp
      have hp1 : Lib.hasPrefix (34 :: t) (quoteL w) = true := by
        rw [Lib.hasPrefix, List.isPrefixOf_iff_prefix] at hp ⊢
        exact (List.prefix_append _ _).trans hp
      have hlen := wordsOf_quote hp1 h
      rw [pre_iff] at hp hp1
      rw [← hlen] at hp1
      refine ⟨hp1, ?_⟩
      have e := congrArg (fun l => l[n + 1]?) hp
      (try simp only at e)
      rw [List.getElem?_append_right (by omega), show n + 1 - (quoteL w).length = 0 by omega] at e
      rw [List.length_append, List.length_singleton, List.getElem?_take] at e
      rw [if_pos (by omega)] at e
      exact e.symm
    · rintro ⟨h1, h2⟩
      have hlen : (quoteL w).length = n + 1 := by
        rw [h1, List.length_take, List.length_cons]; omega
      rw [pre_iff, List.length_append, List.length_singleton, hlen, List.take_add_one, ← h1, h2]
      rfl

/-- the paths to what has nothing in it -/
def leavesT : Nat → VT → List St → List (List St)
  | 0, _, p => [p]
  | d + 1, v, p =>
    if v.list = [] ∧ v.mem = [] then [p] else
    (List.range v.list.length).flatMap (fun i => leavesT d (v.list.getD i nilV) (p ++ [⟨false, ⟨#[]⟩, i⟩])) ++ v.mem.flatMap fun m => leavesT d m.2 (p ++ [⟨true, m.1, 0⟩])
theorem leavesT_pos : ∀ (d : Nat) (v : VT) (p : List St), leavesT d v p ≠ []
  | 0, _, p => by simp [leavesT]
  | d + 1, v, p => by
    unfold leavesT
    split
    · simp
    · rename_i h
      intro e
      rw [List.append_eq_nil_iff] at e
      obtain ⟨e1, e2⟩ := e
      apply h
      constructor
      · cases hl : v.list with
        | nil => rfl
        | cons x l =>
          rw [List.flatMap_eq_nil_iff] at e1
          exact absurd (e1 0 (by simp [hl])) (leavesT_pos d _ _)
      · cases hl : v.mem with
        | nil => rfl
        | cons x l =>
          rw [hl, List.flatMap_cons, List.append_eq_nil_iff] at e2
          exact absurd e2.1 (leavesT_pos d _ _)

end Go.Proofs.YtpgcbehpknghdaaGreatDoor
