/- Paths and their parameters, the plain law: what reading, matching and building answer. No program in sight. No conditions. -/
import Derived.Test.YtjehlecgnepgmaaGreatDoorMatLaw
import Derived.Test.YtjehlecgnepgmaaGreatDoorSegGrp
import Derived.Test.YtjehlecgnepgmaaGreatDoorTpl3
namespace Go.Proofs.YtjehlecgnepgmaaGreatDoor
open Go.RowKit
set_option linter.unusedVariables false
set_option linter.unusedSimpArgs false

/-- the text of segments that stand -/
def slashed (l : List ByteArray) : List UInt8 := 47 :: Lib.join (l.map (·.data.toList)) [47]
/-- a path in its normal form: its error, and its text -/
def pathN (s : ByteArray) : Int × List UInt8 :=
  if pathBad s.data.toList ≠ 0 then (pathBad s.data.toList, []) else
  match normL s.data.toList with
  | none => (9, [])
  | some t => (0, slashed (dotsF (pieces ⟨(t.drop 1).toArray⟩ slB) []))
def decB (x : ByteArray) : ByteArray := ⟨((decL x.data.toList).getD []).toArray⟩
/-- a path's segments: the error, and what they stand for -/
def segsOf (s : ByteArray) : Int × List ByteArray :=
  if (pathN s).1 ≠ 0 then ((pathN s).1, []) else
  if 100 < (pieces ⟨((pathN s).2.drop 1).toArray⟩ slB).length then (2, []) else (0, (pieces ⟨((pathN s).2.drop 1).toArray⟩ slB).map decB)
/-- the text of segments, however long -/
def pathT (l : List ByteArray) : List UInt8 := l.flatMap fun s => 47 :: segL s.data.toList
def isDotB (s : ByteArray) : Bool := decide (s = dot1) || decide (s = dot2)
/-- the path that has some segments -/
def joinP (l : List ByteArray) : Int × List UInt8 :=
  if 100 < l.length then (2, []) else if l.length = 0 then (3, []) else if l.any isDotB then (5, []) else if 1000 < (pathT l).length then (2, []) else (0, pathT l)

/-- the parameters that parts take of segments -/
def matchL : List PartD → List ByteArray → List PairD → Option (List PairD)
  | [], segs, out => if segs = [] then some out else none
  | p :: ps, segs, out =>
    if p.kind = 3 then some (out ++ [(p.name, ⟨(pathT segs).toArray⟩)]) else
    match segs with
    | [] => none
    | s :: ss => if (p.kind = 1 ∧ s ≠ p.name) ∨ (p.kind = 2 ∧ s = emptyB) then none else matchL ps ss (if p.kind = 2 then out ++ [(p.name, s)] else out)
/-- what Match answers: the parameters, whether the path fits, the error -/
def matchOf (t path : ByteArray) : List PairD × Bool × Int :=
  if (tplOf t).1 ≠ 0 then ([], false, (tplOf t).1) else
  if (segsOf path).1 ≠ 0 then ([], false, (segsOf path).1) else
  match matchL (tplOf t).2 (segsOf path).2 [] with
  | none => ([], false, 0)
  | some l => (l, true, 0)

/-- the segments that a part makes -/
def builtP (p : PartD) (params : List PairD) : Int × List ByteArray :=
  if p.kind = 1 then (0, [p.name]) else
  match lookP params p.name with
  | none => (8, [])
  | some v => if p.kind = 2 then (if v = emptyB then (3, []) else (0, [v])) else if v = emptyB then (0, []) else segsOf v
def builtL : List PartD → List PairD → List ByteArray → Int × List ByteArray
  | [], _, out => (0, out)
  | p :: ps, params, out => if (builtP p params).1 ≠ 0 then ((builtP p params).1, []) else builtL ps params (out ++ (builtP p params).2)
def buildOf (t : ByteArray) (params : List PairD) : Int × List UInt8 :=
  if (tplOf t).1 ≠ 0 then ((tplOf t).1, []) else if 30 < params.length then (2, []) else if twiceP params then (6, []) else
  if (builtL (tplOf t).2 params []).1 ≠ 0 then ((builtL (tplOf t).2 params []).1, []) else joinP (builtL (tplOf t).2 params []).2

/-- how much segments weigh -/
def wtL (l : List ByteArray) : Nat := (l.map fun x => x.size + 1).sum
theorem wtL_cons (x : ByteArray) (l : List ByteArray) : wtL (x :: l) = x.size + 1 + wtL l := by simp [wtL]
theorem wtL_snoc (l : List ByteArray) (x : ByteArray) : wtL (l ++ [x]) = wtL l + (x.size + 1) := by simp [wtL]
theorem wtL_dropLast (l : List ByteArray) : wtL l.dropLast ≤ wtL l := by
  rcases List.eq_nil_or_concat l with rfl | ⟨l', x, rfl⟩
  · simp
  · rw [List.concat_eq_append, List.dropLast_concat, wtL_snoc]; omega
theorem wtL_mem {l : List ByteArray} {x : ByteArray} (h : x ∈ l) : x.size < wtL l := by
  induction l with
  | nil => cases h
  | cons a l ih =>
    rw [wtL_cons]
    rcases List.mem_cons.1 h with rfl | h
    · omega
    · have := ih h; omega
theorem dotsF_wt : ∀ (xs st : List ByteArray), wtL (dotsF xs st) ≤ wtL xs + wtL st
  | [], st => by simp [dotsF]
  | x :: xs, st => by
    rw [dotsF, wtL_cons]
    have hd := wtL_dropLast st
    have he : (emptyB : ByteArray).size = 0 := rfl
    split
    · rename_i h
      have : x.size = 1 := by rw [h]; rfl
      have := dotsF_wt xs (if xs.isEmpty then st ++ [emptyB] else st)
      split at this
      · rename_i h2; rw [if_pos h2]; rw [wtL_snoc] at this; omega
      · rename_i h2; rw [if_neg h2]; omega
    · split
      · rename_i h
        have : x.size = 2 := by rw [h]; rfl
        have := dotsF_wt xs (if xs.isEmpty then st.dropLast ++ [emptyB] else st.dropLast)
        split at this
        · rename_i h2; rw [if_pos h2]; rw [wtL_snoc] at this; omega
        · rename_i h2; rw [if_neg h2]; omega
      · have := dotsF_wt xs (st ++ [x])
        rw [wtL_snoc] at this
        omega
theorem pieces_wt : ∀ (n : Nat) (t : ByteArray), t.size ≤ n → wtL (pieces t slB) = t.size + 1 := by
  intro n
  induction n with
  | zero =>
    intro t ht
    rcases Lib.indexB_cases t slB with h | ⟨i, h, hi⟩
    · rw [pieces_miss h]; simp [wtL]
    · have : (slB : ByteArray).size = 1 := rfl
      omega
  | succ n ih =>
    intro t ht
    have h1 : (slB : ByteArray).size = 1 := rfl
    rcases Lib.indexB_cases t slB with h | ⟨i, h, hi⟩
    · rw [pieces_miss h]; simp [wtL]
    · rw [pieces_hit (Nat.le_refl _) h, wtL_cons, ih]
      · simp only [ByteArray.size_extract, h1]
        omega
      · simp only [ByteArray.size_extract, h1]
        omega
theorem join_wt (l : List ByteArray) : (Lib.join (l.map (·.data.toList)) [47]).length ≤ wtL l := by
  cases l with
  | nil => simp [Lib.join_nil, wtL]
  | cons x l =>
    have key : ∀ (x : ByteArray) (l : List ByteArray), (Lib.join ((x :: l).map (·.data.toList)) [47]).length + 1 ≤ wtL (x :: l) := by
      intro x l
      induction l generalizing x with
      | nil =>
        rw [wtL_cons]
        have : x.data.toList.length = x.size := rfl
        simp only [List.map_cons, List.map_nil, Lib.join_one]
        omega
      | cons y l ih =>
        have h1 := ih y
        rw [wtL_cons]
        have : x.data.toList.length = x.size := rfl
        have e : Lib.join ((x :: y :: l).map (·.data.toList)) [47] = x.data.toList ++ [47] ++ Lib.join ((y :: l).map (·.data.toList)) [47] := by
          simp [Lib.join, List.intercalate, List.intersperse]
        rw [e, List.length_append, List.length_append, List.length_singleton]
        omega
    have := key x l
    omega
theorem pathT_wt (l : List ByteArray) : (pathT l).length ≤ 3 * wtL l := by
  induction l with
  | nil => simp [pathT]
  | cons x l ih =>
    have h1 := segL_length x.data.toList
    have h2 : x.data.toList.length = x.size := rfl
    rw [wtL_cons]
    unfold pathT at ih ⊢
    rw [List.flatMap_cons, List.length_append, List.length_cons]
    omega
theorem decB_size (x : ByteArray) : (decB x).size ≤ x.size := by
  unfold decB
  show (List.toArray _).size ≤ _
  rw [List.size_toArray]
  cases h : decL x.data.toList with
  | none => simp
  | some o => exact decL_length _ _ _ (Nat.le_refl _) h
theorem decB_wt (l : List ByteArray) : wtL (l.map decB) ≤ wtL l := by
  induction l with
  | nil => simp
  | cons x l ih => have := decB_size x; rw [List.map_cons, wtL_cons, wtL_cons]; omega
/-- a path in its normal form is no longer than three times the path -/
theorem pathN_ok {s : ByteArray} (h : (pathN s).1 = 0) (hs : s.size ≤ 1000) : ∃ t, (pathN s).2 = 47 :: t ∧ t.length ≤ 3001 := by
  unfold pathN at h ⊢
  split at h
  · rename_i h1; exact absurd h h1
  · rename_i h1
    rw [if_neg h1]
    cases hn : normL s.data.toList with
    | none => rw [hn] at h; cases h
    | some t =>
      simp only
      refine ⟨_, rfl, ?_⟩
      have h2 := normL_length hn
      have h3 : s.data.toList.length = s.size := rfl
      have h4 := join_wt (dotsF (pieces ⟨(t.drop 1).toArray⟩ slB) [])
      have h5 := dotsF_wt (pieces ⟨(t.drop 1).toArray⟩ slB) []
      have h6 := pieces_wt _ (⟨(t.drop 1).toArray⟩ : ByteArray) (Nat.le_refl _)
      have h7 : (⟨(t.drop 1).toArray⟩ : ByteArray).size ≤ t.length := by
        show (List.toArray _).size ≤ _
        rw [List.size_toArray, List.length_drop]
        omega
      have h8 : wtL [] = 0 := rfl
      omega

end Go.Proofs.YtjehlecgnepgmaaGreatDoor
